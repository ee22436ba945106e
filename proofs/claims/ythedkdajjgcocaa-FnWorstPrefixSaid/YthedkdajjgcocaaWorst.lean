/- The contracts of WorstJobs, of the program and of the reference, and of dmJobs at equal lists. No condition. -/
import Derived.Test.YthedkdajjgcocaaDrawO
import Derived.Test.YthedkdajjgcocaaSet
import Derived.Laws.StructEq
namespace Go.Proofs.Ythedkdajjgcocaa
open Go.RowKit
set_option linter.unusedVariables false

/-- the jobs that come at time t, of the first k tasks -/
def rowJ (xs : List T) (hi : Bool) (t : Nat) : Nat → List J
  | 0 => []
  | k + 1 => rowJ xs hi t k ++ (match xs[k]? with | some x => if (t : Int) % x.every = 0 then [⟨k, t, if hi then x.high else x.low⟩] else [] | none => [])
/-- the jobs that come before time t -/
def allJ (xs : List T) (hi : Bool) : Nat → List J
  | 0 => []
  | t + 1 => allJ xs hi t ++ rowJ xs hi t xs.length

theorem rowJ_yes {xs : List T} {hi : Bool} {t k : Nat} {x : T} (hx : xs[k]? = some x) (h : (t : Int) % x.every = 0) : rowJ xs hi t (k + 1) = rowJ xs hi t k ++ [⟨k, t, if hi then x.high else x.low⟩] := by
  simp [rowJ, hx, h]
theorem rowJ_no {xs : List T} {hi : Bool} {t k : Nat} {x : T} (hx : xs[k]? = some x) (h : ¬ (t : Int) % x.every = 0) : rowJ xs hi t (k + 1) = rowJ xs hi t k := by
  simp [rowJ, hx, h]
theorem rowJ_pre (xs : List T) (hi : Bool) (t : Nat) {k k' : Nat} (h : k ≤ k') : rowJ xs hi t k <+: rowJ xs hi t k' := by
  induction k' with
  | zero => have : k = 0 := by omega
            subst this; exact List.prefix_refl _
  | succ k' ih =>
    by_cases e : k = k' + 1
    · subst e; exact List.prefix_refl _
    · exact (ih (by omega)).trans ⟨_, rfl⟩
theorem allJ_pre (xs : List T) (hi : Bool) {t t' : Nat} (h : t ≤ t') : allJ xs hi t <+: allJ xs hi t' := by
  induction t' with
  | zero => have : t = 0 := by omega
            subst this; exact List.prefix_refl _
  | succ t' ih =>
    by_cases e : t = t' + 1
    · subst e; exact List.prefix_refl _
    · exact (ih (by omega)).trans ⟨_, rfl⟩
theorem allJ_part (xs : List T) (hi : Bool) {t t' k : Nat} (h : t < t') (hk : k ≤ xs.length) : (allJ xs hi t ++ rowJ xs hi t k).length ≤ (allJ xs hi t').length := by
  have h1 := (allJ_pre xs hi (show t + 1 ≤ t' from h)).length_le
  have h2 := (rowJ_pre xs hi t hk).length_le
  simp only [allJ, List.length_append] at h1 ⊢
  omega

/-- what WorstJobs hands back -/
def wjB (xs : List T) (u : Int) (hi : Bool) : Bool := svB xs && (decide (0 ≤ u) && (decide (u ≤ 200) && decide ((allJ xs hi u.toNat).length ≤ 60)))
def wjV (xs : List T) (u : Int) (hi : Bool) : List J := if wjB xs u hi = true then allJ xs hi u.toNat else []
theorem wjB_iff (xs : List T) (u : Int) (hi : Bool) : wjB xs u hi = true ↔ svB xs = true ∧ 0 ≤ u ∧ u ≤ 200 ∧ (allJ xs hi u.toNat).length ≤ 60 := by simp [wjB]
theorem wjB_no {xs : List T} {u : Int} {hi : Bool} (h : ¬ (svB xs = true ∧ 0 ≤ u ∧ u ≤ 200 ∧ (allJ xs hi u.toNat).length ≤ 60)) : wjB xs u hi = false := by
  rw [Bool.eq_false_iff]; intro h'; exact h ((wjB_iff xs u hi).1 h')
theorem wjV_no {xs : List T} {u : Int} {hi : Bool} (h : wjB xs u hi = false) : wjV xs u hi = [] := by simp [wjV, h]
theorem wjV_yes {xs : List T} {u : Int} {hi : Bool} (h : wjB xs u hi = true) : wjV xs u hi = allJ xs hi u.toNat := by simp [wjV, h]

theorem sv_each' {xs : List T} (h : svB xs = true) : xs.length ≤ 5 ∧ ∀ t ∈ xs, tvB t = true := by
  simpa [svB, List.all_eq_true] using h

/-- an owned list of jobs, in new memory -/
def OwnJ (w wc : World) (v : Value) (m : Nat) (xs : List J) : Prop := wc.ownsRow w.heap.size 40 3 v m (xs.flatMap J.cells) ∧ xs.length = m
theorem OwnJ.alloc {w w1 : World} {v : Value} {m : Nat} {xs : List J} (h : OwnJ w w1 v m xs) (o : Obj) : OwnJ w (w1.alloc o) v m xs := ⟨h.1.alloc o, h.2⟩
theorem OwnJ.new (w : World) : OwnJ w (w.alloc (.cells #[] 40)) (.slice (some ⟨w.heap.size, 0, none⟩) 0 0) 0 [] :=
  ⟨World.ownsRow_lit (size := 3) (e := 40) (base := w.heap.size) w #[] 0 (Nat.le_refl _) (Nat.zero_le _) rfl, rfl⟩
theorem OwnJ.ext {w w' w1 : World} {v : Value} {m : Nat} {xs : List J} (h : OwnJ w' w1 v m xs) (hs : w.heap.size ≤ w'.heap.size) : OwnJ w w1 v m xs := by
  refine ⟨⟨h.1.1, ?_⟩, h.2⟩
  rcases h.1.2 with h0 | ⟨g, cap, cur, hv, hb, r⟩
  · exact Or.inl h0
  · exact Or.inr ⟨g, cap, cur, hv, Nat.le_trans hs hb, r⟩
theorem OwnJ.rd {w w1 : World} {A : Option Addr} {c m : Nat} {xs : List J} (h : OwnJ w w1 (.slice A m c) m xs) : RdJ w1 A m c xs := Rd.of_own J.cells_len h.1 h.2
theorem OwnJ.slice {w w1 : World} {v : Value} {m : Nat} {xs : List J} (h : OwnJ w w1 v m xs) : ∃ A c, v = .slice A m c := by
  rcases h.1.2 with ⟨hv, h0⟩ | ⟨g, cap, cur, hv, hb, _⟩
  · subst h0; exact ⟨_, _, hv⟩
  · exact ⟨_, _, hv⟩
theorem infoJobD : (Try.prog.info? 40).map (fun i => (i.zero, i.size, i.bytes)) = some (some (.agg #[.int .i64 0, .int .i64 0, .int .i64 0]), 3, 24) := by kernel_rfl
theorem cells_oneJ (w : World) (x : J) (ty : TypeId) (g : Nat) (hg : g = w.heap.size) : ∀ j u, x.cells[j]? = some u → (w.alloc (.cells #[.int .i64 x.task, .int .i64 x.at_, .int .i64 x.need] ty)).cell? ((⟨g, 0, none⟩ : Addr).add j) = some u := by
  subst hg
  intro j u hu
  rw [Addr.add_lit, Nat.zero_add, World.cell?_alloc_at _ _ _ _ rfl]
  simpa [J.cells] using hu
theorem cells_oneCellJ (x : J) : ∀ u ∈ x.cells, u.oneCell' = true := by
  intro u hu
  simp only [J.cells, List.mem_cons, List.not_mem_nil, or_false] at hu
  rcases hu with rfl | rfl | rfl <;> rfl
theorem below_ownJ {w w1 w2 : World} {v : Value} {m : Nat} {L : List Value} {e : TypeId} {k : Nat} (hb : Below w.heap.size w w1) (ho : w1.ownsRow w.heap.size e k v m L) (hg : w1.grownBy w2 v.ownBlock) : Below w.heap.size w w2 :=
  hb.grown hg hb.size (fun g e => (ho.lt g e).1)

theorem neq_job (x : J) (w : World) : (binOp .neq 40 (.agg #[.int .i64 x.task, .int .i64 x.at_, .int .i64 x.need]) (.agg #[.int .i64 x.task, .int .i64 x.at_, .int .i64 x.need])).run Try.prog w = .ok (.bool false) w := by
  simp only [binOp]
  simp [go_sem, Op.equal, Op.maxDepth, run_equalIn_struct]

theorem ret_vb {v : Value} {a b : Bool} (h : a = b) : Ending.returned (.tuple #[v, .bool a]) = .returned (.tuple #[v, .bool b]) := by rw [h]

set_option maxHeartbeats 1600000 in
theorem dmJobs_same (A A' : Option Addr) (n c c' : Nat) (xs : List J) (w : World) (h : RdJ w A n c xs) (h' : RdJ w A' n c' xs) :
    Calls Try.prog 34 #[.slice A n c, .slice A' n c'] w fun e w' => e = .returned (.bool true) ∧ Below w.heap.size w w' := by
  have hm : n ≤ maxLen := Nat.le_trans h.cap h.max
  unfold maxLen at hm
  have hne : ((n : Int) != n) = false := by simp
  go_enter Try.func34, Try.ntmps34
  go_wp2
  go_loopw [5] (fun i wr => ∃ k : Nat, k ≤ n ∧ i = .int .i64 k ∧ Below w.heap.size w wr) (fun i _ => n - (intOf i).toNat)
  case atStart => exact ⟨0, Nat.zero_le _, rfl, Below.refl _ _⟩
  case round =>
    obtain ⟨k, hk, rfl, hbel⟩ := hrel
    by_cases hlt : k < n
    · obtain ⟨b, off, x, rfl, hx, hb, c0, c1, c2⟩ := (h.below hbel).jobAt hlt
      obtain ⟨b', off', x', rfl, hx', hb', d0, d1, d2⟩ := (h'.below hbel).jobAt hlt
      rw [hx] at hx'
      injection hx' with hx'
      subst hx'
      have i0 : (0 : Int) ≤ (k : Int) := by omega
      have i1 : (k : Int) < (n : Int) := by omega
      have heq := fun w => neq_job x w
      clear hx h h'
      go_wp2_with fail
      go_quiet (fail)
      go_wp2
      go_roundw
      case rel => exact ⟨k + 1, by omega, by go_num, ⟨hbel.os, hbel.tape, hbel.output, hbel.size, hbel.block⟩⟩
      case measure => simp [intOf]; omega
    · have hkn : k = n := by omega
      subst hkn
      clear h h'
      go_wp2
      go_ret
      exact ⟨rfl, hbel⟩

set_option maxRecDepth 100000 in
set_option maxHeartbeats 6400000 in
theorem worstJobs_impl (A : Option Addr) (n c : Nat) (xs : List T) (u : Int) (hi : Bool) (w : World) (h : RdT w A n c xs) :
    Calls Try.prog 32 #[.slice A n c, .int .i64 u, .bool hi] w fun e w' => ∃ (D : Option Addr) (k d : Nat), e = .returned (.tuple #[.slice D k d, .bool (wjB xs u hi)]) ∧ OwnJ w w' (.slice D k d) k (wjV xs u hi) ∧ Below w.heap.size w w' := by
  obtain ⟨inf, hi', hz0, hz1, hz2⟩ := info_parts infoJobD
  have hV := Lib.hid (setValid_impl A n c xs w h)
  have hT := Lib.hid h
  by_cases hok : svB xs = true ∧ 0 ≤ u ∧ u ≤ 200
  · obtain ⟨hs, hu0, hu1⟩ := hok
    have Hs := Lib.hid hs
    have hn5 : n ≤ 5 := by have := (sv_each' hs).1; have := h.len; omega
    obtain ⟨U, rfl⟩ := Int.eq_ofNat_of_zero_le hu0
    rw [hs] at hV
    clear h hs
    go_enter Try.func32, Try.ntmps32
    go_wp2_with fail
    refine hV.out.mono ?_
    rintro e w1 ⟨rfl, hb1⟩
    have hb0 := hb1.alloc hb1.size (.cells #[] 40)
    have o0 := Lib.hid ((OwnJ.new w1).ext hb1.size)
    go_wp2_with fail
    go_loopw [8, 26] (fun v i wr => ∃ (t m : Nat), i = .int .i64 t ∧ t ≤ U ∧ m ≤ 60 ∧ OwnJ w wr v m (allJ xs hi t) ∧ Below w.heap.size w wr) (fun _ i _ => U - (intOf i).toNat)
    case atStart => exact ⟨0, 0, rfl, Nat.zero_le _, Nat.zero_le _, o0.out, hb0⟩
    case round =>
      obtain ⟨t, m, rfl, ht, hm, ho, hbel⟩ := hrel
      replace ho := Lib.hid ho
      clear o0 hb0 hb1
      by_cases htU : t < U
      · obtain ⟨wo, rfl⟩ : ∃ wo : World, wo = wr := ⟨_, rfl⟩
        go_wp2_with fail
        go_loopw [8, 31] (fun v i wr => ∃ (k m : Nat), i = .int .i64 k ∧ k ≤ n ∧ m ≤ 60 ∧ OwnJ w wr v m (allJ xs hi t ++ rowJ xs hi t k) ∧ Below w.heap.size w wr) (fun _ i _ => n - (intOf i).toNat)
        case atStart => exact ⟨0, m, rfl, Nat.zero_le _, hm, by simpa [rowJ] using ho.out, hbel⟩
        case round =>
          obtain ⟨k, m2, rfl, hk, hm2, ho2, hbel2⟩ := hrel
          replace ho2 := Lib.hid ho2
          have hsz := hbel2.size
          clear ho hbel
          by_cases hkn : k < n
          · obtain ⟨b, off, x, rfl, hx, hb, c0, c1, c2, c3, c4⟩ := (hT.out.below hbel2).taskAt hkn
            have hE := (tvB_iff x).1 ((sv_each' Hs.out).2 x (List.mem_of_getElem? hx))
            have he1 : 1 ≤ x.every := by omega
            have he2 : x.every ≤ 20 := by omega
            clear hE
            obtain ⟨A2, d2, hv⟩ := ho2.out.slice
            subst hv
            have o3 := Lib.hid (ho2.out.alloc (.cells #[.int .i64 x.low, .int .i64 x.high, .int .i64 x.due, .int .i64 x.every, .bool x.crit] 61))
            have hb3 := Lib.hid (hbel2.alloc hsz (.cells #[.int .i64 x.low, .int .i64 x.high, .int .i64 x.due, .int .i64 x.every, .bool x.crit] 61))
            by_cases he : (t : Int) % x.every = 0
            · have heb : (((t : Int) % x.every) != 0) = false := by simpa using he
              have hR := Lib.hid (rowJ_yes (hi := hi) hx he)
              have he0 := Lib.hid he
              clear he hx
              by_cases hm60 : m2 = 60
              · have hB := Lib.hid (show wjB xs (U : Int) hi = false from wjB_no (fun hh => by
                  have h1 := hh.2.2.2
                  rw [Int.toNat_natCast] at h1
                  have h2 := allJ_part xs hi (k := k + 1) htU (by rw [hT.out.len]; omega)
                  rw [hR.out, ← List.append_assoc, List.length_append, ho2.out.2] at h2
                  simp at h2; omega))
                subst hm60
                have hL := Lib.hid (wjV_no hB.out)
                go_wp2
                go_ret2
                exact ⟨none, 0, 0, ret_vb hB.out.symm, by rw [hL.out]; exact ⟨World.ownsRow_nil _ _ _ _, rfl⟩, hb3.out⟩
              · have hmb : ((m2 : Int) == 60) = false := by simp; omega
                have hm59 : m2 ≤ 59 := by omega
                clear hm60
                cases hi
                · have o4 := Lib.hid (o3.out.alloc (.cells #[.int .i64 (k : Int), .int .i64 (t : Int), .int .i64 x.low] 40))
                  have hb4 := Lib.hid (hb3.out.alloc hb3.out.size (.cells #[.int .i64 (k : Int), .int .i64 (t : Int), .int .i64 x.low] 40))
                  have cj := Lib.hid (cells_oneJ (wr.alloc (.cells #[.int .i64 x.low, .int .i64 x.high, .int .i64 x.due, .int .i64 x.every, .bool x.crit] 61)) ⟨(k : Int), (t : Int), x.low⟩ 40 (wr.heap.size + 1) (by simp))
                  clear o3 hb3 ho2 hbel2
                  go_wp2_with (at_builtin; refine wpList_append_own _ rfl _ _ 25 rfl w.heap.size 40 inf _ 3 24 Try.underlying25 hi' hz0 hz1 hz2 rfl (by decide) _ _ _ rfl o4.out.1 ⟨wr.heap.size + 1, 0, none⟩ 1 1 (J.mk (k : Int) (t : Int) x.low).cells rfl rfl cj.out (cells_oneCellJ _) ?c3 ?c4 ?c5 ?_)
                  case c3 => unfold maxLen; omega
                  case c4 => omega
                  case c5 => first | omega | (simp; omega)
                  intro v' w3 hown3 hg3 _
                  have o5 := Lib.hid (show OwnJ w w3 v' (m2 + 1) (allJ xs false t ++ rowJ xs false t (k + 1)) from ⟨by rw [hR.out, ← List.append_assoc, List.flatMap_append]; simpa using hown3, by rw [hR.out, ← List.append_assoc, List.length_append, o4.out.2]; rfl⟩)
                  have hb5 := Lib.hid (below_ownJ hb4.out o4.out.1 hg3)
                  clear hown3 hg3 o4 hb4 cj c0 c1 c2 c3 c4
                  go_wp2
                  go_roundw
                  case rel => exact ⟨k + 1, m2 + 1, by go_num, by omega, by omega, o5.out, hb5.out⟩
                  case measure => simp [intOf]; omega
                · have o4 := Lib.hid (o3.out.alloc (.cells #[.int .i64 (k : Int), .int .i64 (t : Int), .int .i64 x.high] 40))
                  have hb4 := Lib.hid (hb3.out.alloc hb3.out.size (.cells #[.int .i64 (k : Int), .int .i64 (t : Int), .int .i64 x.high] 40))
                  have cj := Lib.hid (cells_oneJ (wr.alloc (.cells #[.int .i64 x.low, .int .i64 x.high, .int .i64 x.due, .int .i64 x.every, .bool x.crit] 61)) ⟨(k : Int), (t : Int), x.high⟩ 40 (wr.heap.size + 1) (by simp))
                  clear o3 hb3 ho2 hbel2
                  go_wp2_with (at_builtin; refine wpList_append_own _ rfl _ _ 25 rfl w.heap.size 40 inf _ 3 24 Try.underlying25 hi' hz0 hz1 hz2 rfl (by decide) _ _ _ rfl o4.out.1 ⟨wr.heap.size + 1, 0, none⟩ 1 1 (J.mk (k : Int) (t : Int) x.high).cells rfl rfl cj.out (cells_oneCellJ _) ?c3 ?c4 ?c5 ?_)
                  case c3 => unfold maxLen; omega
                  case c4 => omega
                  case c5 => first | omega | (simp; omega)
                  intro v' w3 hown3 hg3 _
                  have o5 := Lib.hid (show OwnJ w w3 v' (m2 + 1) (allJ xs true t ++ rowJ xs true t (k + 1)) from ⟨by rw [hR.out, ← List.append_assoc, List.flatMap_append]; simpa using hown3, by rw [hR.out, ← List.append_assoc, List.length_append, o4.out.2]; rfl⟩)
                  have hb5 := Lib.hid (below_ownJ hb4.out o4.out.1 hg3)
                  clear hown3 hg3 o4 hb4 cj c0 c1 c2 c3 c4
                  go_wp2
                  go_roundw
                  case rel => exact ⟨k + 1, m2 + 1, by go_num, by omega, by omega, o5.out, hb5.out⟩
                  case measure => simp [intOf]; omega
            · have heb : (((t : Int) % x.every) != 0) = true := by simpa using he
              have hR := Lib.hid (rowJ_no (hi := hi) hx he)
              clear he hx
              go_wp2
              go_roundw
              case rel => exact ⟨k + 1, m2, by go_num, by omega, hm2, by rw [hR.out]; exact o3.out, hb3.out⟩
              case measure => simp [intOf]; omega
          · have hkn' : k = n := by omega
            subst hkn'
            have hA := Lib.hid (show allJ xs hi (t + 1) = allJ xs hi t ++ rowJ xs hi t k by rw [allJ, hT.out.len])
            go_wp2
            go_roundw
            case rel => exact ⟨t + 1, m2, by go_num, by omega, hm2, by rw [hA.out]; exact ho2.out, hbel2⟩
            case measure => simp [intOf]; omega
      · have htU' : t = U := by omega
        subst htU'
        have hB := Lib.hid (show wjB xs (t : Int) hi = true from (wjB_iff _ _ _).2 ⟨Hs.out, hu0, hu1, by rw [Int.toNat_natCast, ho.out.2]; exact hm⟩)
        have hL := Lib.hid (show wjV xs (t : Int) hi = allJ xs hi t from wjV_yes hB.out)
        obtain ⟨A2, d2, hv⟩ := ho.out.slice
        subst hv
        go_wp2
        go_ret2
        exact ⟨_, _, _, ret_vb hB.out.symm, by rw [hL.out]; exact ho.out, hbel⟩
  · have hB := Lib.hid (show wjB xs u hi = false from wjB_no (fun hh => hok ⟨hh.1, hh.2.1, hh.2.2.1⟩))
    have hL := Lib.hid (wjV_no hB.out)
    cases hs : svB xs
    · rw [hs] at hV
      clear h hs hok
      go_enter Try.func32, Try.ntmps32
      go_wp2_with fail
      refine hV.out.mono ?_
      rintro e w1 ⟨rfl, hb1⟩
      go_wp2
      go_ret2
      exact ⟨none, 0, 0, ret_vb hB.out.symm, by rw [hL.out]; exact ⟨World.ownsRow_nil _ _ _ _, rfl⟩, hb1⟩
    · rw [hs] at hV
      have hrg : u < 0 ∨ 200 < u := by
        rcases Classical.em (u < 0 ∨ 200 < u) with hh | hh
        · exact hh
        · exact absurd ⟨hs, by omega, by omega⟩ hok
      clear h hs hok
      rcases hrg with hrg | hrg
      · go_enter Try.func32, Try.ntmps32
        go_wp2_with fail
        refine hV.out.mono ?_
        rintro e w1 ⟨rfl, hb1⟩
        go_wp2
        go_ret2
        exact ⟨none, 0, 0, ret_vb hB.out.symm, by rw [hL.out]; exact ⟨World.ownsRow_nil _ _ _ _, rfl⟩, hb1⟩
      · go_enter Try.func32, Try.ntmps32
        go_wp2_with fail
        refine hV.out.mono ?_
        rintro e w1 ⟨rfl, hb1⟩
        go_wp2
        go_ret2
        exact ⟨none, 0, 0, ret_vb hB.out.symm, by rw [hL.out]; exact ⟨World.ownsRow_nil _ _ _ _, rfl⟩, hb1⟩

set_option maxRecDepth 100000 in
set_option maxHeartbeats 6400000 in
theorem worstJobs_spec (A : Option Addr) (n c : Nat) (xs : List T) (u : Int) (hi : Bool) (w : World) (h : RdT w A n c xs) :
    Calls Try.prog 33 #[.slice A n c, .int .i64 u, .bool hi] w fun e w' => ∃ (D : Option Addr) (k d : Nat), e = .returned (.tuple #[.slice D k d, .bool (wjB xs u hi)]) ∧ OwnJ w w' (.slice D k d) k (wjV xs u hi) ∧ Below w.heap.size w w' := by
  obtain ⟨inf, hi', hz0, hz1, hz2⟩ := info_parts infoJobD
  have hV := Lib.hid (setValid_spec A n c xs (w.alloc (.cells #[] 40)) (h.alloc _))
  have hT := Lib.hid h
  have hba : Below w.heap.size w (w.alloc (.cells #[] 40)) := (Below.refl _ _).alloc (Nat.le_refl _) _
  have oa := Lib.hid (OwnJ.new w)
  by_cases hok : svB xs = true ∧ 0 ≤ u ∧ u ≤ 200
  · obtain ⟨hs, hu0, hu1⟩ := hok
    have Hs := Lib.hid hs
    have hn5 : n ≤ 5 := by have := (sv_each' hs).1; have := h.len; omega
    obtain ⟨U, rfl⟩ := Int.eq_ofNat_of_zero_le hu0
    rw [hs] at hV
    clear h hs
    go_enter Try.func33, Try.ntmps33
    go_wp2_with fail
    refine hV.out.mono ?_
    rintro e w1 ⟨rfl, hb1⟩
    have o0 := Lib.hid (show OwnJ w w1 (.slice (some ⟨w.heap.size, 0, none⟩) 0 0) 0 [] from ⟨own_below oa.out.1 hb1, rfl⟩)
    have hb0 := hba.trans (hb1.mono hba.size)
    clear hb1 oa
    go_wp2_with fail
    go_loopw [8, 9] (fun v i wr => ∃ (t m : Nat), i = .int .i64 t ∧ t ≤ U ∧ m ≤ 60 ∧ OwnJ w wr v m (allJ xs hi t) ∧ Below w.heap.size w wr) (fun _ i _ => U - (intOf i).toNat)
    case atStart => exact ⟨0, 0, rfl, Nat.zero_le _, Nat.zero_le _, o0.out, hb0⟩
    case round =>
      obtain ⟨t, m, rfl, ht, hm, ho, hbel⟩ := hrel
      replace ho := Lib.hid ho
      clear o0 hb0 hba
      by_cases htU : t < U
      · obtain ⟨wo, rfl⟩ : ∃ wo : World, wo = wr := ⟨_, rfl⟩
        go_wp2_with fail
        go_loopw [8, 10] (fun v i wr => ∃ (k m : Nat), i = .int .i64 k ∧ k ≤ n ∧ m ≤ 60 ∧ OwnJ w wr v m (allJ xs hi t ++ rowJ xs hi t k) ∧ Below w.heap.size w wr) (fun _ i _ => n - (intOf i).toNat)
        case atStart => exact ⟨0, m, rfl, Nat.zero_le _, hm, by simpa [rowJ] using ho.out, hbel⟩
        case round =>
          obtain ⟨k, m2, rfl, hk, hm2, ho2, hbel2⟩ := hrel
          replace ho2 := Lib.hid ho2
          have hsz := hbel2.size
          clear ho hbel
          by_cases hkn : k < n
          · obtain ⟨b, off, x, rfl, hx, hb, c0, c1, c2, c3, c4⟩ := (hT.out.below hbel2).taskAt hkn
            have hE := (tvB_iff x).1 ((sv_each' Hs.out).2 x (List.mem_of_getElem? hx))
            have he1 : 1 ≤ x.every := by omega
            have he2 : x.every ≤ 20 := by omega
            clear hE
            obtain ⟨A2, d2, hv⟩ := ho2.out.slice
            subst hv
            by_cases he : (t : Int) % x.every = 0
            · have heb : (((t : Int) % x.every) != 0) = false := by simpa using he
              have hR := Lib.hid (rowJ_yes (hi := hi) hx he)
              have he0 := Lib.hid he
              clear he hx
              by_cases hm60 : m2 = 60
              · have hB := Lib.hid (show wjB xs (U : Int) hi = false from wjB_no (fun hh => by
                  have h1 := hh.2.2.2
                  rw [Int.toNat_natCast] at h1
                  have h2 := allJ_part xs hi (k := k + 1) htU (by rw [hT.out.len]; omega)
                  rw [hR.out, ← List.append_assoc, List.length_append, ho2.out.2] at h2
                  simp at h2; omega))
                subst hm60
                have hL := Lib.hid (wjV_no hB.out)
                have oe := Lib.hid ((OwnJ.new wr).ext hsz)
                have hbe := Lib.hid (hbel2.alloc hsz (.cells #[] 40))
                go_wp2
                go_ret2
                exact ⟨_, 0, 0, ret_vb hB.out.symm, by rw [hL.out]; exact oe.out, hbe.out⟩
              · have hmb : ((m2 : Int) == 60) = false := by simp; omega
                have hm59 : m2 ≤ 59 := by omega
                clear hm60
                cases hi
                · have o4 := Lib.hid ((ho2.out.alloc (.cells #[.int .i64 (k : Int), .int .i64 (t : Int), .int .i64 x.low] 40)).alloc (.cells #[.int .i64 (k : Int), .int .i64 (t : Int), .int .i64 x.low] 40))
                  have hb3 := hbel2.alloc hsz (.cells #[.int .i64 (k : Int), .int .i64 (t : Int), .int .i64 x.low] 40)
                  have hb4 := Lib.hid (hb3.alloc hb3.size (.cells #[.int .i64 (k : Int), .int .i64 (t : Int), .int .i64 x.low] 40))
                  have cj := Lib.hid (cells_oneJ (wr.alloc (.cells #[.int .i64 (k : Int), .int .i64 (t : Int), .int .i64 x.low] 40)) ⟨(k : Int), (t : Int), x.low⟩ 40 (wr.heap.size + 1) (by simp))
                  clear hb3 ho2 hbel2
                  go_wp2_with (at_builtin; refine wpList_append_own _ rfl _ _ 25 rfl w.heap.size 40 inf _ 3 24 Try.underlying25 hi' hz0 hz1 hz2 rfl (by decide) _ _ _ rfl o4.out.1 ⟨wr.heap.size + 1, 0, none⟩ 1 1 (J.mk (k : Int) (t : Int) x.low).cells rfl rfl cj.out (cells_oneCellJ _) ?c3 ?c4 ?c5 ?_)
                  case c3 => unfold maxLen; omega
                  case c4 => omega
                  case c5 => first | omega | (simp; omega)
                  intro v' w3 hown3 hg3 _
                  have o5 := Lib.hid (show OwnJ w w3 v' (m2 + 1) (allJ xs false t ++ rowJ xs false t (k + 1)) from ⟨by rw [hR.out, ← List.append_assoc, List.flatMap_append]; simpa using hown3, by rw [hR.out, ← List.append_assoc, List.length_append, o4.out.2]; rfl⟩)
                  have hb5 := Lib.hid (below_ownJ hb4.out o4.out.1 hg3)
                  clear hown3 hg3 o4 hb4 cj c0 c1 c2 c3 c4
                  go_wp2
                  go_roundw
                  case rel => exact ⟨k + 1, m2 + 1, by go_num, by omega, by omega, o5.out, hb5.out⟩
                  case measure => simp [intOf]; omega
                · have o4 := Lib.hid ((ho2.out.alloc (.cells #[.int .i64 (k : Int), .int .i64 (t : Int), .int .i64 x.high] 40)).alloc (.cells #[.int .i64 (k : Int), .int .i64 (t : Int), .int .i64 x.high] 40))
                  have hb3 := hbel2.alloc hsz (.cells #[.int .i64 (k : Int), .int .i64 (t : Int), .int .i64 x.high] 40)
                  have hb4 := Lib.hid (hb3.alloc hb3.size (.cells #[.int .i64 (k : Int), .int .i64 (t : Int), .int .i64 x.high] 40))
                  have cj := Lib.hid (cells_oneJ (wr.alloc (.cells #[.int .i64 (k : Int), .int .i64 (t : Int), .int .i64 x.high] 40)) ⟨(k : Int), (t : Int), x.high⟩ 40 (wr.heap.size + 1) (by simp))
                  clear hb3 ho2 hbel2
                  go_wp2_with (at_builtin; refine wpList_append_own _ rfl _ _ 25 rfl w.heap.size 40 inf _ 3 24 Try.underlying25 hi' hz0 hz1 hz2 rfl (by decide) _ _ _ rfl o4.out.1 ⟨wr.heap.size + 1, 0, none⟩ 1 1 (J.mk (k : Int) (t : Int) x.high).cells rfl rfl cj.out (cells_oneCellJ _) ?c3 ?c4 ?c5 ?_)
                  case c3 => unfold maxLen; omega
                  case c4 => omega
                  case c5 => first | omega | (simp; omega)
                  intro v' w3 hown3 hg3 _
                  have o5 := Lib.hid (show OwnJ w w3 v' (m2 + 1) (allJ xs true t ++ rowJ xs true t (k + 1)) from ⟨by rw [hR.out, ← List.append_assoc, List.flatMap_append]; simpa using hown3, by rw [hR.out, ← List.append_assoc, List.length_append, o4.out.2]; rfl⟩)
                  have hb5 := Lib.hid (below_ownJ hb4.out o4.out.1 hg3)
                  clear hown3 hg3 o4 hb4 cj c0 c1 c2 c3 c4
                  go_wp2
                  go_roundw
                  case rel => exact ⟨k + 1, m2 + 1, by go_num, by omega, by omega, o5.out, hb5.out⟩
                  case measure => simp [intOf]; omega
            · have heb : (((t : Int) % x.every) != 0) = true := by simpa using he
              have hR := Lib.hid (rowJ_no (hi := hi) hx he)
              clear he hx
              go_wp2
              go_roundw
              case rel => exact ⟨k + 1, m2, by go_num, by omega, hm2, by rw [hR.out]; exact ho2.out, hbel2⟩
              case measure => simp [intOf]; omega
          · have hkn' : k = n := by omega
            subst hkn'
            have hA := Lib.hid (show allJ xs hi (t + 1) = allJ xs hi t ++ rowJ xs hi t k by rw [allJ, hT.out.len])
            go_wp2
            go_roundw
            case rel => exact ⟨t + 1, m2, by go_num, by omega, hm2, by rw [hA.out]; exact ho2.out, hbel2⟩
            case measure => simp [intOf]; omega
      · have htU' : t = U := by omega
        subst htU'
        have hB := Lib.hid (show wjB xs (t : Int) hi = true from (wjB_iff _ _ _).2 ⟨Hs.out, hu0, hu1, by rw [Int.toNat_natCast, ho.out.2]; exact hm⟩)
        have hL := Lib.hid (show wjV xs (t : Int) hi = allJ xs hi t from wjV_yes hB.out)
        obtain ⟨A2, d2, hv⟩ := ho.out.slice
        subst hv
        go_wp2
        go_ret2
        exact ⟨_, _, _, ret_vb hB.out.symm, by rw [hL.out]; exact ho.out, hbel⟩
  · have hB := Lib.hid (show wjB xs u hi = false from wjB_no (fun hh => hok ⟨hh.1, hh.2.1, hh.2.2.1⟩))
    have hL := Lib.hid (wjV_no hB.out)
    cases hs : svB xs
    · rw [hs] at hV
      clear h hs hok
      go_enter Try.func33, Try.ntmps33
      go_wp2_with fail
      refine hV.out.mono ?_
      rintro e w1 ⟨rfl, hb1⟩
      have o0 := Lib.hid (show OwnJ w w1 (.slice (some ⟨w.heap.size, 0, none⟩) 0 0) 0 [] from ⟨own_below oa.out.1 hb1, rfl⟩)
      have hb0 := hba.trans (hb1.mono hba.size)
      clear hb1 oa
      go_wp2
      go_ret2
      exact ⟨_, 0, 0, ret_vb hB.out.symm, by rw [hL.out]; exact o0.out, hb0⟩
    · rw [hs] at hV
      have hrg : u < 0 ∨ 200 < u := by
        rcases Classical.em (u < 0 ∨ 200 < u) with hh | hh
        · exact hh
        · exact absurd ⟨hs, by omega, by omega⟩ hok
      clear h hs hok
      rcases hrg with hrg | hrg
      all_goals
        go_enter Try.func33, Try.ntmps33
        go_wp2_with fail
        refine hV.out.mono ?_
        rintro e w1 ⟨rfl, hb1⟩
        have o0 := Lib.hid (show OwnJ w w1 (.slice (some ⟨w.heap.size, 0, none⟩) 0 0) 0 [] from ⟨own_below oa.out.1 hb1, rfl⟩)
        have hb0 := hba.trans (hb1.mono hba.size)
        clear hb1
        go_wp2
        go_ret2
        exact ⟨_, 0, 0, ret_vb hB.out.symm, by rw [hL.out]; exact o0.out, hb0⟩

end Go.Proofs.Ythedkdajjgcocaa
