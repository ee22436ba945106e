/- The contracts of the exact laws' helpers on lists of numbers: toIntS, eqIntS. Condition: at most 2^20 numbers are copied. -/
import Derived.Test.YthedkdajjgcocaaChecked
import Derived.Test.YthedkdajjgcocaaOwn
namespace Go.Proofs.Ythedkdajjgcocaa
open Go.RowKit
set_option linter.unusedVariables false

theorem infoInt : (Try.prog.info? 3).map (fun i => (i.zero, i.size, i.bytes)) = some (some (.int .i64 0), 1, 8) := by kernel_rfl

set_option maxHeartbeats 1600000 in
theorem toIntS_any (A : Option Addr) (n c : Nat) (xs : List Int) (w : World) (h : RdI w A n c xs) (hn : n ≤ 1048576) :
    Calls Try.prog 27 #[.slice A n c] w fun e w' => ∃ g, e = .returned (.slice (some ⟨g, 0, none⟩) n n) ∧ w'.ownsRow w.heap.size 3 1 (.slice (some ⟨g, 0, none⟩) n n) n (xs.flatMap icells) ∧ Below w.heap.size w w' := by
  obtain ⟨i0, hi, hz0, hz1, hz2⟩ := info_parts infoInt
  have hmx : n ≤ maxLen := Nat.le_trans h.cap h.max
  go_enter Try.func27, Try.ntmps27
  go_wp2_with (at_make; refine wpList_make_full _ rfl _ _ 43 rfl w.heap.size 3 i0 _ 1 Try.underlying43 hi hz0 hz1 _ _ _ _ n rfl rfl rfl rfl ?_ hmx (Nat.le_refl _) ?_)
  · rw [hz2]; omega
  intro w1 hown hg
  have hb1 : Below w.heap.size w w1 := (Below.refl _ _).grown hg (Nat.le_refl _) (fun k hk => by cases hk)
  clear hg
  generalize (madeCells _ _).toList = L0 at hown
  generalize hG : w.heap.size = G at hown hb1 ⊢
  have HG := Lib.hid hG
  clear hG
  go_wp2
  go_loopw [4] (fun i wr => ∃ (k : Nat) (L : List Value), k ≤ n ∧ i = .int .i64 k ∧ wr.ownsRow G 3 1 (.slice (some ⟨G, 0, none⟩) n n) n L ∧ L.take k = (xs.take k).flatMap icells ∧ Below G w wr) (fun i _ => n - (intOf i).toNat)
  case atStart => exact ⟨0, L0, Nat.zero_le _, rfl, hown, by simp, hb1⟩
  case round =>
    obtain ⟨k, L, hk, rfl, hown, hL, hbel⟩ := hrel
    by_cases hlt : k < n
    · have hgl := own_lt hown
      obtain ⟨b, off, x, rfl, hx, hb, c0⟩ := (h.below (hbel.mono (Nat.le_of_eq HG.out))).intAt hlt
      have HL := Lib.hid hL
      have Hx := Lib.hid hx
      have Hlen := Lib.hid h.len
      obtain ⟨u0, q0⟩ := own_cell hown (j := k) (by omega)
      have f0 := hown.frozenAt k
      clear hL hx h hb
      go_wp2
      go_roundw
      case rel =>
        have hlL : L.length = n * 1 := hown.1
        refine ⟨k + 1, _, by omega, by go_num, (hown.stored k (.int .i64 x)).1, ?_, ?_⟩
        · rw [take_set1 L _ k _ (by rw [flatMap_len icells_len, List.length_take, Hlen.out]; omega) (by omega) HL.out, take_succ_of Hx.out, List.flatMap_append]
          rfl
        · exact hbel.setCell (Nat.le_refl _) _
      case measure => simp [intOf]; omega
    · have hkn : k = n := by omega
      subst hkn
      have hlen := h.len
      have HL : Hid (L = xs.flatMap icells) := by
        have h1 : L.take k = L := List.take_of_length_le (by have := hown.1; omega)
        have h2 : xs.take k = xs := List.take_of_length_le (Nat.le_of_eq hlen)
        rw [h1, h2] at hL
        exact hL
      clear hL hlen h
      go_wp2
      go_ret
      have HE := HG.out
      subst HE
      exact ⟨_, rfl, by rw [← HL.out]; exact hown, hbel⟩

set_option maxHeartbeats 1600000 in
theorem eqIntS_same (A A' : Option Addr) (n c c' : Nat) (xs : List Int) (w : World) (h : RdI w A n c xs) (h' : RdI w A' n c' xs) :
    Calls Try.prog 29 #[.slice A n c, .slice A' n c'] w fun e w' => e = .returned (.bool true) ∧ Below w.heap.size w w' := by
  have hm : n ≤ maxLen := Nat.le_trans h.cap h.max
  unfold maxLen at hm
  have hne : ((n : Int) != n) = false := by simp
  go_enter Try.func29, Try.ntmps29
  go_wp2
  go_loopw [5] (fun i wr => ∃ k : Nat, k ≤ n ∧ i = .int .i64 k ∧ Below w.heap.size w wr) (fun i _ => n - (intOf i).toNat)
  case atStart => exact ⟨0, Nat.zero_le _, rfl, Below.refl _ _⟩
  case round =>
    obtain ⟨k, hk, rfl, hbel⟩ := hrel
    by_cases hlt : k < n
    · obtain ⟨b, off, x, rfl, hx, hb, c0⟩ := (h.below hbel).intAt hlt
      obtain ⟨b', off', x', rfl, hx', hb', d0⟩ := (h'.below hbel).intAt hlt
      rw [hx] at hx'
      injection hx' with hx'
      subst hx'
      have i0 : (0 : Int) ≤ (k : Int) := by omega
      have i1 : (k : Int) < (n : Int) := by omega
      have hxx : (x != x) = false := by simp
      clear hx h h'
      go_wp2_with fail
      go_quiet (fail)
      go_wp2
      go_roundw
      case rel => exact ⟨k + 1, by omega, by go_num, ⟨hbel.os, hbel.tape, hbel.output, hbel.size, hbel.block⟩⟩
      case measure => simp [intOf]; omega
    · have hkn : k = n := by omega
      subst hkn
      clear h h'
      go_wp2
      go_ret
      exact ⟨rfl, hbel⟩

end Go.Proofs.Ythedkdajjgcocaa
