/- The contracts of the exact laws' helpers on tasks: szTaskS, toTask, toTaskS, eqTask, eqTaskS. Condition: at most 2^20 tasks are copied. -/
import Derived.Test.YtcgjifklapaeeaaChecked
import Derived.Test.YtcgjifklapaeeaaOwn
namespace Go.Proofs.Ytcgjifklapaeeaa
open Go.RowKit
set_option linter.unusedVariables false

theorem szTaskS_big (A : Option Addr) (n c : Nat) (xs : List T) (w : World) (h : RdT w A n c xs) (hn : 1048576 < n) :
    Calls Try.prog 20 #[.slice A n c, .int .i64 1048576] w fun e w' => e = .returned (.int .i64 (-1)) ∧ Below w.heap.size w w' := by
  have hm : n ≤ maxLen := Nat.le_trans h.cap h.max
  unfold maxLen at hm
  have hm' : n ≤ 9223372036854775807 := hm
  go_enter Try.func20, Try.ntmps20
  go_wp2
  go_ret
  exact ⟨rfl, Below.refl _ _⟩
theorem szTaskS_small (A : Option Addr) (n c : Nat) (w : World) (hn : n ≤ 1048576) :
    Calls Try.prog 20 #[.slice A n c, .int .i64 1048576] w fun e w' => e = .returned (.int .i64 (1048576 - n)) ∧ Below w.heap.size w w' := by
  go_enter Try.func20, Try.ntmps20
  go_wp2
  go_ret
  exact ⟨rfl, Below.refl _ _⟩

theorem toTask_any (a b c d : Int) (e : Bool) (w : World) :
    Calls Try.prog 43 #[.agg #[.int .i64 a, .int .i64 b, .int .i64 c, .int .i64 d, .bool e]] w fun r w' => r = .returned (.agg #[.int .i64 a, .int .i64 b, .int .i64 c, .int .i64 d, .bool e]) ∧ Below w.heap.size w w' := by
  go_enter Try.func43, Try.ntmps43
  go_wp2
  refine bodyPost_ret (v := .agg #[.int .i64 a, .int .i64 b, .int .i64 c, .int .i64 d, .bool e]) (by simp [results, Try.results43, go_sem]) rfl ⟨rfl, ?_⟩
  exact (((Below.refl _ _).alloc (Nat.le_refl _) _).alloc (by simp) _).alloc (by simp; omega) _

theorem infoTask : (Try.prog.info? 40).map (fun i => (i.zero, i.size, i.bytes)) = some (some (.agg #[.int .i64 0, .int .i64 0, .int .i64 0, .int .i64 0, .bool false]), 5, 40) := by kernel_rfl

set_option maxHeartbeats 1600000 in
theorem toTaskS_any (A : Option Addr) (n c : Nat) (xs : List T) (w : World) (h : RdT w A n c xs) (hn : n ≤ 1048576) :
    Calls Try.prog 21 #[.slice A n c] w fun e w' => ∃ g, e = .returned (.slice (some ⟨g, 0, none⟩) n n) ∧ w'.ownsRow w.heap.size 40 5 (.slice (some ⟨g, 0, none⟩) n n) n (xs.flatMap T.cells) ∧ Below w.heap.size w w' := by
  obtain ⟨i0, hi, hz0, hz1, hz2⟩ := info_parts infoTask
  have hmx : n ≤ maxLen := Nat.le_trans h.cap h.max
  go_enter Try.func21, Try.ntmps21
  go_wp2_with (at_make; refine wpList_make_full _ rfl _ _ 23 rfl w.heap.size 40 i0 _ 5 Try.underlying23 hi hz0 hz1 _ _ _ _ n rfl rfl rfl rfl ?_ hmx (Nat.le_refl _) ?_)
  · rw [hz2]; omega
  intro w1 hown hg
  have hb1 : Below w.heap.size w w1 := (Below.refl _ _).grown hg (Nat.le_refl _) (fun k hk => by cases hk)
  clear hg
  generalize (madeCells _ (n * 5)).toList = L0 at hown
  generalize hG : w.heap.size = G at hown hb1 ⊢
  have HG := Lib.hid hG
  clear hG
  go_wp2
  go_loopw [4] (fun i wr => ∃ (k : Nat) (L : List Value), k ≤ n ∧ i = .int .i64 k ∧ wr.ownsRow G 40 5 (.slice (some ⟨G, 0, none⟩) n n) n L ∧ L.take (k * 5) = (xs.take k).flatMap T.cells ∧ Below G w wr) (fun i _ => n - (intOf i).toNat)
  case atStart => exact ⟨0, L0, Nat.zero_le _, rfl, hown, by simp, hb1⟩
  case round =>
    obtain ⟨k, L, hk, rfl, hown, hL, hbel⟩ := hrel
    have hsz := hbel.size
    by_cases hlt : k < n
    · have hgl := own_lt hown
      obtain ⟨b, off, x, rfl, hx, hb, c0, c1, c2, c3, c4⟩ := (h.below (hbel.mono (Nat.le_of_eq HG.out))).taskAt hlt
      have HL := Lib.hid hL
      have Hx := Lib.hid hx
      have Hlen := Lib.hid h.len
      clear hL hx h
      go_wp2_with fail
      refine (toTask_any _ _ _ _ _ _).mono ?_
      rintro e w2 ⟨rfl, hb2⟩
      have hown2 := own_below hown hb2
      have hbel2 : Below G w w2 := hbel.trans (hb2.mono (Nat.le_of_lt hgl.2))
      have hsz2 : G < w2.heap.size := Nat.lt_of_lt_of_le hgl.2 hb2.size
      obtain ⟨u0, q0⟩ := own_cell hown2 (j := k * 5) (by omega)
      obtain ⟨u1, q1⟩ := own_cell hown2 (j := k * 5 + 1) (by omega)
      obtain ⟨u2, q2⟩ := own_cell hown2 (j := k * 5 + 2) (by omega)
      obtain ⟨u3, q3⟩ := own_cell hown2 (j := k * 5 + 3) (by omega)
      obtain ⟨u4, q4⟩ := own_cell hown2 (j := k * 5 + 4) (by omega)
      have f0 := hown2.frozenAt (k * 5)
      have f1 := hown2.frozenAt (k * 5 + 1)
      have f2 := hown2.frozenAt (k * 5 + 2)
      have f3 := hown2.frozenAt (k * 5 + 3)
      have f4 := hown2.frozenAt (k * 5 + 4)
      clear hb2 hown c0 c1 c2 c3 c4 hb
      go_wp2
      go_roundw
      case rel =>
        have hlL : L.length = n * 5 := hown2.1
        refine ⟨k + 1, _, by omega, by go_num, own_store5 hown2 k (.int .i64 x.low) (.int .i64 x.high) (.int .i64 x.due) (.int .i64 x.every) (.bool x.crit), ?_, ?_⟩
        · rw [show (k + 1) * 5 = k * 5 + 5 by omega, take_set5 L _ (k * 5) _ _ _ _ _ (by rw [flatMap_len T.cells_len, List.length_take, Hlen.out]; omega) (by omega) HL.out, take_succ_of Hx.out, List.flatMap_append]
          rfl
        · exact ((((hbel2.setCell (Nat.le_refl _) _).setCell (Nat.le_refl _) _).setCell (Nat.le_refl _) _).setCell (Nat.le_refl _) _).setCell (Nat.le_refl _) _
      case measure => simp [intOf]; omega
    · have hkn : k = n := by omega
      subst hkn
      have hlen := h.len
      have HL : Hid (L = xs.flatMap T.cells) := by
        have h1 : L.take (k * 5) = L := List.take_of_length_le (Nat.le_of_eq hown.1)
        have h2 : xs.take k = xs := List.take_of_length_le (Nat.le_of_eq hlen)
        rw [h1, h2] at hL
        exact hL
      clear hL hlen h
      go_wp2
      go_ret
      have HE := HG.out
      subst HE
      exact ⟨_, rfl, by rw [← HL.out]; exact hown, hbel⟩

set_option maxHeartbeats 800000 in
theorem eqTask_any (x y : T) (w : World) :
    Calls Try.prog 44 #[.agg #[.int .i64 x.low, .int .i64 x.high, .int .i64 x.due, .int .i64 x.every, .bool x.crit], .agg #[.int .i64 y.low, .int .i64 y.high, .int .i64 y.due, .int .i64 y.every, .bool y.crit]] w fun r w' => r = .returned (.bool (decide (x = y))) ∧ Below w.heap.size w w' := by
  obtain ⟨a, b, c, d, e⟩ := x
  obtain ⟨a', b', c', d', e'⟩ := y
  dsimp only
  go_enter Try.func44, Try.ntmps44
  go_wp2
  all_goals go_ret
  all_goals refine ⟨ret_bool ?_, ((Below.refl _ _).alloc (Nat.le_refl _) _).alloc (by simp) _⟩
  all_goals rw [Bool.eq_iff_iff, decide_eq_true_eq, T.mk.injEq]
  all_goals simp_all

set_option maxHeartbeats 1600000 in
theorem eqTaskS_same (A A' : Option Addr) (n c c' : Nat) (xs : List T) (w : World) (h : RdT w A n c xs) (h' : RdT w A' n c' xs) :
    Calls Try.prog 22 #[.slice A n c, .slice A' n c'] w fun e w' => e = .returned (.bool true) ∧ Below w.heap.size w w' := by
  have hm : n ≤ maxLen := Nat.le_trans h.cap h.max
  unfold maxLen at hm
  have hne : ((n : Int) != n) = false := by simp
  go_enter Try.func22, Try.ntmps22
  go_wp2
  go_loopw [5] (fun i wr => ∃ k : Nat, k ≤ n ∧ i = .int .i64 k ∧ Below w.heap.size w wr) (fun i _ => n - (intOf i).toNat)
  case atStart => exact ⟨0, Nat.zero_le _, rfl, Below.refl _ _⟩
  case round =>
    obtain ⟨k, hk, rfl, hbel⟩ := hrel
    by_cases hlt : k < n
    · obtain ⟨b, off, x, rfl, hx, hb, c0, c1, c2, c3, c4⟩ := (h.below hbel).taskAt hlt
      obtain ⟨b', off', x', rfl, hx', hb', d0, d1, d2, d3, d4⟩ := (h'.below hbel).taskAt hlt
      rw [hx] at hx'
      injection hx' with hx'
      subst hx'
      have hs := hbel.size
      have i0 : (0 : Int) ≤ (k : Int) := by omega
      have i1 : (k : Int) < (n : Int) := by omega
      clear hx h h'
      go_wp2_with fail
      go_region_held3 (fun w' => w'.cell? ⟨b, off + k * 5, none⟩ = some (.int .i64 x.low) ∧ w'.cell? ⟨b, off + k * 5 + 1, none⟩ = some (.int .i64 x.high) ∧ w'.cell? ⟨b, off + k * 5 + 2, none⟩ = some (.int .i64 x.due) ∧ w'.cell? ⟨b, off + k * 5 + 3, none⟩ = some (.int .i64 x.every) ∧ w'.cell? ⟨b, off + k * 5 + 4, none⟩ = some (.bool x.crit) ∧ w'.cell? ⟨b', off' + k * 5, none⟩ = some (.int .i64 x.low) ∧ w'.cell? ⟨b', off' + k * 5 + 1, none⟩ = some (.int .i64 x.high) ∧ w'.cell? ⟨b', off' + k * 5 + 2, none⟩ = some (.int .i64 x.due) ∧ w'.cell? ⟨b', off' + k * 5 + 3, none⟩ = some (.int .i64 x.every) ∧ w'.cell? ⟨b', off' + k * 5 + 4, none⟩ = some (.bool x.crit)) (first | exact ⟨c0, c1, c2, c3, c4, d0, d1, d2, d3, d4⟩ | exact ⟨(hb1.cell (p := ⟨b, off + k * 5, none⟩) hb).trans c0, (hb1.cell (p := ⟨b, off + k * 5 + 1, none⟩) hb).trans c1, (hb1.cell (p := ⟨b, off + k * 5 + 2, none⟩) hb).trans c2, (hb1.cell (p := ⟨b, off + k * 5 + 3, none⟩) hb).trans c3, (hb1.cell (p := ⟨b, off + k * 5 + 4, none⟩) hb).trans c4, (hb1.cell (p := ⟨b', off' + k * 5, none⟩) hb').trans d0, (hb1.cell (p := ⟨b', off' + k * 5 + 1, none⟩) hb').trans d1, (hb1.cell (p := ⟨b', off' + k * 5 + 2, none⟩) hb').trans d2, (hb1.cell (p := ⟨b', off' + k * 5 + 3, none⟩) hb').trans d3, (hb1.cell (p := ⟨b', off' + k * 5 + 4, none⟩) hb').trans d4⟩) (first | (go_at_call 44; refine (eqTask_any x x _).mono ?_; rintro e w1 ⟨rfl, hb1⟩; rw [decide_eq_true rfl]))
      have hbw : Below w.heap.size w w1 := hbel.drew.trans (hb1.mono hs)
      clear hb1
      go_wp2
      go_roundw
      case rel => exact ⟨k + 1, by omega, by go_num, hbw⟩
      case measure => simp [intOf]; omega
    · have hkn : k = n := by omega
      subst hkn
      clear h h'
      go_wp2
      go_ret
      exact ⟨rfl, hbel⟩

end Go.Proofs.Ytcgjifklapaeeaa
