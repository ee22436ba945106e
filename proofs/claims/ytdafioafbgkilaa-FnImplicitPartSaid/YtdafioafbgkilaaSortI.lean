/- The contract of SortDue, of the program: the same tasks in some order, in new memory. Condition: the tasks are valid. -/
import Derived.Test.YtdafioafbgkilaaSort
namespace Go.Proofs.Ytdafioafbgkilaa
open Go.RowKit
set_option linter.unusedVariables false

set_option maxRecDepth 100000 in
set_option maxHeartbeats 3200000 in
theorem clone_all (A : Option Addr) (n c : Nat) (xs : List T) (w : World) (h : RdT w A n c xs) (hn : n ≤ 1000) :
    Calls Try.prog 56 #[.slice A n c] w fun e w' => ∃ (D : Option Addr) (d : Nat), e = .returned (.slice D n d) ∧ OwnT w w' (.slice D n d) n xs ∧ Below w.heap.size w w' := by
  rcases Nat.eq_zero_or_pos n with hn0 | hn0
  · subst hn0
    have hx : xs = [] := List.eq_nil_of_length_eq_zero h.len
    subst hx
    cases A with
    | none =>
      have hnil := fun (w : World) => Lib.run_eql_slice_nil (P := Try.prog) w 23 48 none 0 c 0 0 Try.underlying23
      clear h
      go_enter Try.func56, Try.ntmps56
      go_wp2
      go_ret
      exact ⟨_, _, rfl, ⟨World.ownsRow_nil _ _ _ _, rfl⟩, Below.refl _ _⟩
    | some ad =>
      obtain ⟨inf, hi, iz0, iz1, iz2⟩ := info_parts infoTaskD
      have hbA := (Below.refl w.heap.size w).alloc (Nat.le_refl _) (.cells #[] 48)
      have N0 := Lib.hid (OwnT.new w)
      have hnil := fun (w : World) => Lib.run_eql_slice_nil (P := Try.prog) w 23 48 (some ad) 0 c 0 0 Try.underlying23
      clear h
      go_enter Try.func56, Try.ntmps56
      go_wp2_with (at_builtin; refine wpList_append_own _ rfl (.tmp 5) (.tmp 6) 23 rfl w.heap.size 48 inf _ 5 40 Try.underlying23 hi iz0 iz1 iz2 rfl (by decide) _ _ _ rfl N0.out.1 ad 0 c [] rfl rfl (fun j u hu => by simp at hu) (fun u hu => by simp at hu) (by unfold maxLen; omega) (by omega) (by simp) ?_)
      intro v' w1 hown hg hnn
      have hg' : (w.alloc (.cells #[] 48)).grownBy w1 (some w.heap.size) := hg
      have hz1 := hbA.grown hg' hbA.size (fun k e => by injection e with e; omega)
      have N1 : OwnT w w1 v' 0 [] := ⟨by simpa using hown, rfl⟩
      obtain ⟨D, d, hv⟩ := N1.slice
      subst hv
      have N2 := Lib.hid N1
      clear N1 hown hg hg' hnn N0
      go_wp2
      go_ret
      exact ⟨_, _, rfl, N2.out, hz1⟩
  · obtain ⟨b, off, x, rfl, _⟩ := h.taskAt hn0
    refine (clone_tasks b off n c xs w h hn0 hn).mono ?_
    rintro e w1 ⟨g, d, rfl, o, hb⟩
    exact ⟨_, _, rfl, o, hb⟩

set_option maxRecDepth 100000 in
set_option maxHeartbeats 3200000 in
theorem stable_tasks (u w : World) (A : Option Addr) (n c : Nat) (xs : List T) (h : OwnT u w (.slice A n c) n xs) (hn : n ≤ 5) :
    Calls Try.prog 72 #[.slice A n c, .int .i64 n, .func (.func 58) #[] #[]] w fun e w' => e = .returned (.tuple #[]) ∧ ∃ ys, OwnT u w' (.slice A n c) n ys ∧ xs.Perm ys ∧ Below u.heap.size w w' := by
  have o0 := Lib.hid h
  have n20 : (n : Int) < 20 := by omega
  clear h
  go_enter Try.func72, Try.ntmps72
  go_wp2_with fail
  refine wp_loop_rounds 1 ?_
  rw [rounds_succ]
  go_wp2_with fail
  refine (insertion_tasks u w A n c xs o0.out hn).mono ?_
  rintro e w1 ⟨rfl, ys, o1, hp, hb⟩
  have O1 := Lib.hid o1
  have HP := Lib.hid hp
  clear o1 hp
  go_wp2_with fail
  refine wp_loop_rounds 1 ?_
  rw [rounds_succ]
  go_wp2_with fail
  go_end0
  exact ⟨rfl, ys, O1.out, HP.out, hb⟩

set_option maxHeartbeats 1600000 in
theorem sortStable_tasks (u w : World) (A : Option Addr) (n c : Nat) (xs : List T) (h : OwnT u w (.slice A n c) n xs) (hn : n ≤ 5) :
    Calls Try.prog 57 #[.slice A n c, .func (.func 58) #[] #[]] w fun e w' => e = .returned (.tuple #[]) ∧ ∃ ys, OwnT u w' (.slice A n c) n ys ∧ xs.Perm ys ∧ Below u.heap.size w w' := by
  have HS := Lib.hid (stable_tasks u w A n c xs h hn)
  clear h
  go_enter Try.func57, Try.ntmps57
  go_wp2_with fail
  refine HS.out.mono ?_
  rintro e w1 ⟨rfl, ys, o1, hp, hb⟩
  have O1 := Lib.hid o1
  have HP := Lib.hid hp
  clear o1 hp
  go_wp2_with fail
  go_end0
  exact ⟨rfl, ys, O1.out, HP.out, hb⟩

set_option maxHeartbeats 1600000 in
theorem sortDue_impl (A : Option Addr) (n c : Nat) (xs : List T) (w : World) (h : RdT w A n c xs) (hs : svB xs = true) :
    Calls Try.prog 17 #[.slice A n c] w fun e w' => ∃ (D : Option Addr) (d : Nat) (ys : List T), e = .returned (.slice D n d) ∧ OwnT w w' (.slice D n d) n ys ∧ xs.Perm ys ∧ Below w.heap.size w w' := by
  have q0 := Lib.hid h
  have Hs := Lib.hid hs
  have hz0 := Below.refl w.heap.size w
  have hn5 : n ≤ 5 := by
    have h1 : xs.length ≤ 5 := by simp only [svB, Bool.and_eq_true, decide_eq_true_eq] at hs; exact hs.1
    have := h.len; omega
  clear h hs
  go_enter Try.func17, Try.ntmps17
  go_wp2_with fail
  refine (setValid_impl A n c xs w q0.out).mono ?_
  rw [Hs.out]
  rintro e w1 ⟨rfl, hb1⟩
  have hz1 := hz0.trans (hb1.mono hz0.size)
  replace q0 := Lib.hid (q0.out.below hb1)
  clear hb1
  go_wp2_with fail
  refine (clone_all A n c xs w1 q0.out (by omega)).mono ?_
  rintro e w2 ⟨D, d, rfl, o2, hb2⟩
  have hz2 := hz1.trans (hb2.mono hz1.size)
  have O2 := Lib.hid (o2.ext hz1.size)
  clear hb2 o2
  go_wp2_with fail
  refine (sortStable_tasks w w2 D n d xs O2.out hn5).mono ?_
  rintro e w3 ⟨rfl, ys, o3, hp, hb3⟩
  have hz3 := hz2.trans hb3
  have O3 := Lib.hid o3
  have HP := Lib.hid hp
  clear hb3 o3 hp
  go_wp2
  go_ret
  exact ⟨_, _, ys, rfl, O3.out, HP.out, hz3⟩

end Go.Proofs.Ytdafioafbgkilaa
