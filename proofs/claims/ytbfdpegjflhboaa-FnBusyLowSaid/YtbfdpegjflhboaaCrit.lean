/- The contracts of CriticalOf, of the program and of the reference. No condition. -/
import Derived.Test.YtbfdpegjflhboaaFr
import Derived.Test.YtbfdpegjflhboaaDrawL
namespace Go.Proofs.Ytbfdpegjflhboaa
open Go.RowKit
set_option linter.unusedVariables false

def critV (xs : List T) : List T := if svB xs = true then critL xs else []
theorem critV_no {xs : List T} (h : svB xs = false) : critV xs = [] := by simp [critV, h]
theorem critV_yes {xs : List T} (h : svB xs = true) : critV xs = critL xs := by simp [critV, h]
theorem below_ownC {w w1 w2 : World} {v : Value} {m : Nat} {L : List Value} {e : TypeId} {k : Nat} (hb : Below w.heap.size w w1) (ho : w1.ownsRow w.heap.size e k v m L) (hg : w1.grownBy w2 v.ownBlock) : Below w.heap.size w w2 :=
  hb.grown hg hb.size (fun g e => (ho.lt g e).1)
theorem OwnT.belowC {w w1 w2 : World} {v : Value} {m : Nat} {xs : List T} (h : OwnT w w1 v m xs) (hb : Below w1.heap.size w1 w2) : OwnT w w2 v m xs := ⟨own_below h.1 hb, h.2⟩

set_option maxRecDepth 100000 in
set_option maxHeartbeats 6400000 in
theorem criticalOf_impl (A : Option Addr) (n c : Nat) (xs : List T) (w : World) (h : RdT w A n c xs) :
    Calls Try.prog 33 #[.slice A n c] w fun e w' => ∃ (D : Option Addr) (k d : Nat), e = .returned (.slice D k d) ∧ OwnT w w' (.slice D k d) k (critV xs) ∧ Below w.heap.size w w' := by
  obtain ⟨inf, hi, hz0, hz1, hz2⟩ := info_parts infoTaskD
  have hV := Lib.hid (setValid_impl A n c xs w h)
  have hT := Lib.hid h
  cases hs : svB xs
  · rw [hs] at hV
    have hL := Lib.hid (critV_no hs)
    clear h hs
    go_enter Try.func33, Try.ntmps33
    go_wp2_with fail
    refine hV.out.mono ?_
    rintro e w1 ⟨rfl, hb1⟩
    go_wp2
    go_ret
    exact ⟨none, 0, 0, rfl, by rw [hL.out]; exact ⟨World.ownsRow_nil _ _ _ _, rfl⟩, hb1⟩
  · rw [hs] at hV
    have hL := Lib.hid (critV_yes hs)
    have hn5 : n ≤ 5 := by have := (sv_all hs).1; have := h.len; omega
    clear h hs
    go_enter Try.func33, Try.ntmps33
    go_wp2_with fail
    refine hV.out.mono ?_
    rintro e w1 ⟨rfl, hb1⟩
    have hb0 := hb1.alloc hb1.size (.cells #[] 30)
    have o0 := Lib.hid ((OwnT.new w1).ext hb1.size)
    go_wp2_with fail
    go_loopw [3, 12] (fun v i wr => ∃ (k m : Nat), i = .int .i64 k ∧ k ≤ n ∧ m ≤ k ∧ OwnT w wr v m (critL (xs.take k)) ∧ Below w.heap.size w wr) (fun _ i _ => n - (intOf i).toNat)
    case atStart => exact ⟨0, 0, rfl, Nat.zero_le _, Nat.le_refl _, o0.out, hb0⟩
    case round =>
      obtain ⟨k, m, rfl, hk, hm, ho, hbel⟩ := hrel
      replace ho := Lib.hid ho
      have hsz := hbel.size
      clear o0 hb0 hb1
      by_cases hkn : k < n
      · obtain ⟨b, off, x, rfl, hx, hb, c0, c1, c2, c3, c4⟩ := (hT.out.below hbel).taskAt hkn
        cases hc : x.crit
        · rw [hc] at c4
          have hR := Lib.hid (show critL (xs.take (k + 1)) = critL (xs.take k) by rw [take_succ_of hx, critL_snoc_no hc])
          have o1 := Lib.hid (ho.out.alloc (.cells #[.int .i64 x.low, .int .i64 x.high, .int .i64 x.due, .int .i64 x.every, .bool false] 30))
          have hb1 := Lib.hid (hbel.alloc hsz (.cells #[.int .i64 x.low, .int .i64 x.high, .int .i64 x.due, .int .i64 x.every, .bool false] 30))
          clear hc hx ho hbel
          go_wp2
          go_roundw
          case rel => exact ⟨k + 1, m, by go_num, by omega, by omega, by rw [hR.out]; exact o1.out, hb1.out⟩
          case measure => simp [intOf]; omega
        · rw [hc] at c4
          have hR := Lib.hid (show critL (xs.take (k + 1)) = critL (xs.take k) ++ [⟨x.high, x.high, x.due, x.every, true⟩] by rw [take_succ_of hx, critL_snoc_yes hc, hc])
          have o1 := Lib.hid ((ho.out.alloc (.cells #[.int .i64 x.high, .int .i64 x.high, .int .i64 x.due, .int .i64 x.every, .bool true] 30)).alloc (.cells #[.int .i64 x.high, .int .i64 x.high, .int .i64 x.due, .int .i64 x.every, .bool true] 30))
          have hb1 := hbel.alloc hsz (.cells #[.int .i64 x.high, .int .i64 x.high, .int .i64 x.due, .int .i64 x.every, .bool true] 30)
          replace hb1 := Lib.hid (hb1.alloc hb1.size (.cells #[.int .i64 x.high, .int .i64 x.high, .int .i64 x.due, .int .i64 x.every, .bool true] 30))
          have cj := Lib.hid (cells_one (wr.alloc (.cells #[.int .i64 x.high, .int .i64 x.high, .int .i64 x.due, .int .i64 x.every, .bool true] 30)) ⟨x.high, x.high, x.due, x.every, true⟩ 30 (wr.heap.size + 1) (by simp))
          clear hc hx ho hbel
          go_wp2_with (at_builtin; refine wpList_append_own _ rfl _ _ 23 rfl w.heap.size 30 inf _ 5 40 Try.underlying23 hi hz0 hz1 hz2 rfl (by decide) _ _ _ rfl o1.out.1 ⟨wr.heap.size + 1, 0, none⟩ 1 1 (T.mk x.high x.high x.due x.every true).cells rfl rfl cj.out (cells_oneCell _) ?c3 ?c4 ?c5 ?_)
          case c3 => unfold maxLen; omega
          case c4 => omega
          case c5 => first | omega | (simp; omega)
          intro v' w3 hown3 hg3 _
          have o3 := Lib.hid (show OwnT w w3 v' (m + 1) (critL (xs.take (k + 1))) from ⟨by rw [hR.out, List.flatMap_append]; simpa using hown3, by rw [hR.out, List.length_append, o1.out.2]; rfl⟩)
          have hb3 := Lib.hid (below_ownC hb1.out o1.out.1 hg3)
          clear hown3 hg3 o1 hb1 cj c0 c1 c2 c3 c4
          go_wp2
          go_roundw
          case rel => exact ⟨k + 1, m + 1, by go_num, by omega, by omega, o3.out, hb3.out⟩
          case measure => simp [intOf]; omega
      · have hkn' : k = n := by omega
        subst hkn'
        have HP := Lib.hid (show xs.take k = xs from List.take_of_length_le (by rw [hT.out.len]; omega))
        rw [HP.out] at ho
        obtain ⟨D, d, hv⟩ := ho.out.slice
        subst hv
        go_wp2
        go_ret
        exact ⟨_, _, _, rfl, by rw [hL.out]; exact ho.out, hbel⟩

set_option maxRecDepth 100000 in
set_option maxHeartbeats 6400000 in
theorem criticalOf_spec (A : Option Addr) (n c : Nat) (xs : List T) (w : World) (h : RdT w A n c xs) :
    Calls Try.prog 57 #[.slice A n c] w fun e w' => ∃ (D : Option Addr) (k d : Nat), e = .returned (.slice D k d) ∧ OwnT w w' (.slice D k d) k (critV xs) ∧ Below w.heap.size w w' := by
  obtain ⟨inf, hi, hz0, hz1, hz2⟩ := info_parts infoTaskD
  have hm' : n ≤ maxLen := Nat.le_trans h.cap h.max
  unfold maxLen at hm'
  have hT := Lib.hid h
  have hb0 : Below w.heap.size w (w.alloc (.cells #[] 30)) := (Below.refl _ _).alloc (Nat.le_refl _) _
  have o0 := Lib.hid (OwnT.new w)
  clear h
  go_enter Try.func57, Try.ntmps57
  go_wp2_with fail
  go_loopw [3, 4] (fun v i wr => ∃ (k m : Nat), i = .int .i64 k ∧ k ≤ n ∧ m ≤ k ∧ OwnT w wr v m (critL (xs.take k)) ∧ Below w.heap.size w wr ∧ (svB xs = false → k = 0)) (fun _ i _ => n - (intOf i).toNat)
  case atStart => exact ⟨0, 0, rfl, Nat.zero_le _, Nat.le_refl _, o0.out, hb0, fun _ => rfl⟩
  case round =>
    obtain ⟨k, m, rfl, hk, hm, ho, hbel, hk0⟩ := hrel
    replace ho := Lib.hid ho
    replace hk0 := Lib.hid hk0
    clear o0 hb0
    by_cases hkn : k < n
    · have hV := Lib.hid (setValid_spec A n c xs wr (hT.out.below hbel))
      cases hs : svB xs
      · rw [hs] at hV
        have hL := Lib.hid (critV_no hs)
        have hkz := hk0.out hs
        subst hkz
        have Hs := Lib.hid hs
        clear hs
        obtain ⟨D, d, hv⟩ := ho.out.slice
        subst hv
        go_wp2_with fail
        refine hV.out.mono ?_
        rintro e w1 ⟨rfl, hb1⟩
        have o1 := Lib.hid (ho.out.belowC hb1)
        have hbw := hbel.trans (hb1.mono hbel.size)
        clear hb1
        go_wp2
        go_ret
        exact ⟨_, _, _, rfl, by rw [hL.out]; simpa [critL] using o1.out, hbw⟩
      · rw [hs] at hV
        have Hs := Lib.hid hs
        have hn5 : n ≤ 5 := by have := (sv_all hs).1; have := hT.out.len; omega
        clear hs
        go_wp2_with fail
        refine hV.out.mono ?_
        rintro e w1 ⟨rfl, hb1⟩
        replace ho := Lib.hid (ho.out.belowC hb1)
        have hbw := hbel.trans (hb1.mono hbel.size)
        have hsz := hbw.size
        obtain ⟨b, off, x, rfl, hx, hb, c0, c1, c2, c3, c4⟩ := (hT.out.below hbw).taskAt hkn
        clear hb1 hbel
        cases hc : x.crit
        · rw [hc] at c4
          have hR := Lib.hid (show critL (xs.take (k + 1)) = critL (xs.take k) by rw [take_succ_of hx, critL_snoc_no hc])
          have o1 := Lib.hid (ho.out.alloc (.cells #[.int .i64 x.low, .int .i64 x.high, .int .i64 x.due, .int .i64 x.every, .bool false] 30))
          have hb1 := Lib.hid (hbw.alloc hsz (.cells #[.int .i64 x.low, .int .i64 x.high, .int .i64 x.due, .int .i64 x.every, .bool false] 30))
          clear hc hx ho hbw
          go_wp2
          go_roundw
          case rel => exact ⟨k + 1, m, by go_num, by omega, by omega, by rw [hR.out]; exact o1.out, hb1.out, fun hh => by first | cases hh | (rw [Hs.out] at hh; cases hh)⟩
          case measure => simp [intOf]; omega
        · rw [hc] at c4
          have hR := Lib.hid (show critL (xs.take (k + 1)) = critL (xs.take k) ++ [⟨x.high, x.high, x.due, x.every, true⟩] by rw [take_succ_of hx, critL_snoc_yes hc, hc])
          have o1 := Lib.hid ((ho.out.alloc (.cells #[.int .i64 x.high, .int .i64 x.high, .int .i64 x.due, .int .i64 x.every, .bool true] 30)).alloc (.cells #[.int .i64 x.high, .int .i64 x.high, .int .i64 x.due, .int .i64 x.every, .bool true] 30))
          have hb1 := hbw.alloc hsz (.cells #[.int .i64 x.high, .int .i64 x.high, .int .i64 x.due, .int .i64 x.every, .bool true] 30)
          replace hb1 := Lib.hid (hb1.alloc hb1.size (.cells #[.int .i64 x.high, .int .i64 x.high, .int .i64 x.due, .int .i64 x.every, .bool true] 30))
          have cj := Lib.hid (cells_one (w1.alloc (.cells #[.int .i64 x.high, .int .i64 x.high, .int .i64 x.due, .int .i64 x.every, .bool true] 30)) ⟨x.high, x.high, x.due, x.every, true⟩ 30 (w1.heap.size + 1) (by simp))
          clear hc hx ho hbw
          go_wp2_with (at_builtin; refine wpList_append_own _ rfl _ _ 23 rfl w.heap.size 30 inf _ 5 40 Try.underlying23 hi hz0 hz1 hz2 rfl (by decide) _ _ _ rfl o1.out.1 ⟨w1.heap.size + 1, 0, none⟩ 1 1 (T.mk x.high x.high x.due x.every true).cells rfl rfl cj.out (cells_oneCell _) ?c3 ?c4 ?c5 ?_)
          case c3 => unfold maxLen; omega
          case c4 => omega
          case c5 => first | omega | (simp; omega)
          intro v' w3 hown3 hg3 _
          have o3 := Lib.hid (show OwnT w w3 v' (m + 1) (critL (xs.take (k + 1))) from ⟨by rw [hR.out, List.flatMap_append]; simpa using hown3, by rw [hR.out, List.length_append, o1.out.2]; rfl⟩)
          have hb3 := Lib.hid (below_ownC hb1.out o1.out.1 hg3)
          clear hown3 hg3 o1 hb1 cj c0 c1 c2 c3 c4
          go_wp2
          go_roundw
          case rel => exact ⟨k + 1, m + 1, by go_num, by omega, by omega, o3.out, hb3.out, fun hh => by first | cases hh | (rw [Hs.out] at hh; cases hh)⟩
          case measure => simp [intOf]; omega
    · have hkn' : k = n := by omega
      have hL := Lib.hid (show critV xs = critL (xs.take k) by
        have HP : xs.take k = xs := List.take_of_length_le (by rw [hT.out.len]; omega)
        rw [HP]
        cases hs : svB xs
        · have h0 := hk0.out hs
          have : xs = [] := List.eq_nil_of_length_eq_zero (by rw [hT.out.len]; omega)
          rw [critV_no hs, this]; rfl
        · exact critV_yes hs)
      subst hkn'
      obtain ⟨D, d, hv⟩ := ho.out.slice
      subst hv
      go_wp2
      go_ret
      exact ⟨_, _, _, rfl, by rw [hL.out]; exact ho.out, hbel⟩

end Go.Proofs.Ytbfdpegjflhboaa
