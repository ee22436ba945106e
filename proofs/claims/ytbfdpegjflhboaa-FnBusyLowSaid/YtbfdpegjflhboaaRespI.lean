/- The contracts of ResponseLow, ResponseSwitch, ResponseHigh, BusyLow, holds, FirstBad, HoldsBoth, HoldsLow, of the program. No condition. -/
import Derived.Test.YtbfdpegjflhboaaRise
import Derived.Test.YtbfdpegjflhboaaCrit
namespace Go.Proofs.Ytbfdpegjflhboaa
open Go.RowKit
set_option linter.unusedVariables false

theorem rlV_bd {xs : List T} {k : Nat} {x : T} {r : Int} (hs : svB xs = true) (hx : xs[k]? = some x) (h : rlo (xs.take k) x = some r) : 0 ≤ r ∧ r ≤ 20 := by
  have h1 := rlo_some (sv_take hs k) (sv_at hs hx) h
  have h2 := tv_bds (sv_at hs hx)
  omega

set_option maxRecDepth 100000 in
set_option maxHeartbeats 6400000 in
theorem responseLow_impl (A : Option Addr) (n c : Nat) (xs : List T) (i : Int) (w : World) (h : RdT w A n c xs) :
    Calls Try.prog 16 #[.slice A n c, .int .i64 i] w fun e w' => e = .returned (.tuple #[.int .i64 ((rlV xs i).getD 0), .bool (rlV xs i).isSome]) ∧ Below w.heap.size w w' := by
  have hz0 := ((Below.refl w.heap.size w).alloc (Nat.le_refl _) (.cells #[.slice A n c] 23))
  replace hz0 := hz0.alloc hz0.size (.cells #[.int .i64 i] 3)
  have rL := Lib.hid ((Blk.new w 23 #[.slice A n c]).alloc (.cells #[.int .i64 i] 3))
  have rA := Lib.hid (Blk.new (w.alloc (.cells #[.slice A n c] 23)) 3 #[.int .i64 i])
  have q0 := Lib.hid ((h.alloc (.cells #[.slice A n c] 23)).alloc (.cells #[.int .i64 i] 3))
  have hl := Lib.hid h.len
  have hsz : (w.alloc (.cells #[.slice A n c] 23)).heap.size = w.heap.size + 1 := by simp
  rw [hsz] at rA
  clear h hsz
  cases hp : plB xs i
  · have Hp := Lib.hid hp
    have HV := Lib.hid (rlV_no hp)
    clear hp
    go_enter Try.func16, Try.ntmps16
    go_wp2_with fail
    refine (placed_impl A n c xs i _ q0.out).mono ?_
    rw [Hp.out]
    rintro e w1 ⟨rfl, hb1⟩
    have hz1 := hz0.trans (hb1.mono hz0.size)
    clear hb1
    go_wp2
    go_ret2
    exact ⟨by rw [HV.out]; rfl, hz1⟩
  · have Hp := Lib.hid hp
    obtain ⟨hs, k, rfl, hk⟩ := plB_at hl.out hp
    have hxl : xs[k]? = some (atT xs k) := atT_get (by rw [hl.out]; exact hk)
    have HV := Lib.hid (rlV_yes hp hxl)
    generalize atT xs k = x at *
    have Hx := Lib.hid hxl
    have Hs := Lib.hid hs
    have i0 : (0 : Int) ≤ (k : Int) := by omega
    have i1 : (k : Int) < (n : Int) := by omega
    clear hp hxl hs
    go_enter Try.func16, Try.ntmps16
    go_wp2_with fail
    refine (placed_impl A n c xs k _ q0.out).mono ?_
    rw [Hp.out]
    rintro e w1 ⟨rfl, hb1⟩
    have hz1 := hz0.trans (hb1.mono hz0.size)
    replace rL := Lib.hid (rL.out.below hb1)
    replace rA := Lib.hid (rA.out.below hb1)
    replace q0 := Lib.hid (q0.out.below hb1)
    clear hb1
    obtain ⟨b, off, x', hA, hx', hb, c0, c1, c2, c3, c4⟩ := q0.out.taskAt hk
    rw [Hx.out] at hx'
    injection hx' with hx'
    subst hA
    subst hx'
    have C := CapL.mk rL.out rA.out q0.out
    have HC := Lib.hid (fun d os => Calls.regrown_of (d := d) (os := os) (rlo_rises w.heap.size (w.heap.size + 1) _ n c xs k x (Go.Sort.grow (redrawn w1 d) os) (C.regrown d os) hk Hs.out Hx.out))
    have E0 := cell_regrown c0
    have E2 := cell_regrown c2
    have L0 := cell_regrown (rL.out.cell (i := 0) rfl)
    have A0 := cell_regrown (rA.out.cell (i := 0) rfl)
    have hmf : ∀ (fn : Fn) (first cap : Array Value) (w : World), (Instr.makeFunc fn first cap).run Try.prog w = .ok (.func fn first cap) w := fun _ _ _ _ => rfl
    clear c0 c1 c2 c3 c4 C
    go_wp2_with fail
    refine wp_region_quiet_below (by kernel_rfl) (by kernel_rfl) ?_
    repeat (go_big_quiet_step ((go_at_call 41; exact HC.out _ _)))
    refine wpQuiet_nil ?_
    intro w2 hwq
    have hbq := below_of_regrown hwq
    clear hwq
    have hz2 := hz1.trans (hbq.mono hz1.size)
    go_wp2
    go_ret2
    exact ⟨by rw [HV.out]; rfl, hz2⟩

set_option maxRecDepth 100000 in
set_option maxHeartbeats 6400000 in
theorem responseSwitch_impl (A : Option Addr) (n c : Nat) (xs : List T) (i : Int) (w : World) (h : RdT w A n c xs) :
    Calls Try.prog 19 #[.slice A n c, .int .i64 i] w fun e w' => e = .returned (.tuple #[.int .i64 ((rsV xs i).getD 0), .bool (rsV xs i).isSome]) ∧ Below w.heap.size w w' := by
  have hz0 := ((Below.refl w.heap.size w).alloc (Nat.le_refl _) (.cells #[.slice A n c] 23))
  replace hz0 := hz0.alloc hz0.size (.cells #[.int .i64 i] 3)
  have rL := Lib.hid ((Blk.new w 23 #[.slice A n c]).alloc (.cells #[.int .i64 i] 3))
  have rA := Lib.hid (Blk.new (w.alloc (.cells #[.slice A n c] 23)) 3 #[.int .i64 i])
  have q0 := Lib.hid ((h.alloc (.cells #[.slice A n c] 23)).alloc (.cells #[.int .i64 i] 3))
  have hl := Lib.hid h.len
  have hsz : (w.alloc (.cells #[.slice A n c] 23)).heap.size = w.heap.size + 1 := by simp
  rw [hsz] at rA
  clear h hsz
  cases hp : plB xs i
  · have HL := Lib.hid (rlV_no hp)
    have HV := Lib.hid (rsV_no hp)
    clear hp
    go_enter Try.func19, Try.ntmps19
    go_wp2_with fail
    refine (responseLow_impl A n c xs i _ q0.out).mono ?_
    rw [HL.out]
    rintro e w1 ⟨rfl, hb1⟩
    have hz1 := hz0.trans (hb1.mono hz0.size)
    clear hb1
    have hz1a := hz1.alloc hz1.size (.cells #[.int .i64 0] 3)
    go_wp2
    go_ret2
    exact ⟨by rw [HV.out]; rfl, hz1a⟩
  · obtain ⟨hs, k, rfl, hk⟩ := plB_at hl.out hp
    have hxl : xs[k]? = some (atT xs k) := atT_get (by rw [hl.out]; exact hk)
    have hL := rlV_yes hp hxl
    have hV := rsV_yes hp hxl
    generalize atT xs k = x at *
    have Hx := Lib.hid hxl
    have Hs := Lib.hid hs
    have i0 : (0 : Int) ≤ (k : Int) := by omega
    have i1 : (k : Int) < (n : Int) := by omega
    cases hr : rlo (xs.take k) x with
    | none =>
      have HL := Lib.hid (hL.trans hr)
      have HV := Lib.hid (hV.trans (rsw_no hr))
      clear hp hxl hs hr hL hV
      go_enter Try.func19, Try.ntmps19
      go_wp2_with fail
      refine (responseLow_impl A n c xs k _ q0.out).mono ?_
      rw [HL.out]
      rintro e w1 ⟨rfl, hb1⟩
      have hz1 := hz0.trans (hb1.mono hz0.size)
      clear hb1
      have hz1a := hz1.alloc hz1.size (.cells #[.int .i64 0] 3)
      go_wp2
      go_ret2
      exact ⟨by rw [HV.out]; rfl, hz1a⟩
    | some low =>
      have HL := Lib.hid (hL.trans hr)
      obtain ⟨l0, l1⟩ := rlV_bd hs hxl hr
      cases hc : x.crit
      · have HV := Lib.hid (hV.trans (rsw_low hr hc))
        have Hc := Lib.hid hc
        clear hp hxl hs hr hL hV hc
        go_enter Try.func19, Try.ntmps19
        go_wp2_with fail
        refine (responseLow_impl A n c xs k _ q0.out).mono ?_
        rw [HL.out]
        rintro e w1 ⟨rfl, hb1⟩
        have hz1 := hz0.trans (hb1.mono hz0.size)
        replace rL := Lib.hid (rL.out.below hb1)
        replace rA := Lib.hid (rA.out.below hb1)
        replace q0 := Lib.hid (q0.out.below hb1)
        clear hb1
        obtain ⟨b, off, x', hA, hx', hb, c0, c1, c2, c3, c4⟩ := q0.out.taskAt hk
        rw [Hx.out] at hx'
        injection hx' with hx'
        subst hA
        subst hx'
        have L0 := rL.out.cell (i := 0) rfl
        have A0 := rA.out.cell (i := 0) rfl
        have L1 := rL.out.lt
        have A1 := rA.out.lt
        rw [Hc.out] at c4
        have hz1a := hz1.alloc hz1.size (.cells #[.int .i64 low] 3)
        clear c0 c1 c2 c3
        go_wp2
        go_ret2
        exact ⟨by rw [HV.out]; rfl, hz1a⟩
      · have HV := Lib.hid (hV.trans (rsw_yes hr hc))
        have Hc := Lib.hid hc
        clear hp hxl hs hr hL hV hc
        go_enter Try.func19, Try.ntmps19
        go_wp2_with fail
        refine (responseLow_impl A n c xs k _ q0.out).mono ?_
        rw [HL.out]
        rintro e w1 ⟨rfl, hb1⟩
        have hz1 := hz0.trans (hb1.mono hz0.size)
        replace rL := Lib.hid (rL.out.below hb1)
        replace rA := Lib.hid (rA.out.below hb1)
        replace q0 := Lib.hid (q0.out.below hb1)
        clear hb1
        have rW := Lib.hid (Blk.new w1 3 #[.int .i64 low])
        replace rL := Lib.hid (rL.out.alloc (.cells #[.int .i64 low] 3))
        replace rA := Lib.hid (rA.out.alloc (.cells #[.int .i64 low] 3))
        replace q0 := Lib.hid (q0.out.alloc (.cells #[.int .i64 low] 3))
        have hz1a := hz1.alloc hz1.size (.cells #[.int .i64 low] 3)
        obtain ⟨b, off, x', hA, hx', hb, c0, c1, c2, c3, c4⟩ := q0.out.taskAt hk
        rw [Hx.out] at hx'
        injection hx' with hx'
        subst hA
        subst hx'
        have C := CapL.mk rL.out rA.out q0.out
        have HC := Lib.hid (fun d os => Calls.regrown_of (d := d) (os := os) (rsw_rises w.heap.size (w.heap.size + 1) _ n c xs k x low w1.heap.size (Go.Sort.grow (redrawn (w1.alloc (.cells #[.int .i64 low] 3)) d) os) (C.regrown d os) hk Hs.out Hx.out (rW.out.regrown d os) l0 (by omega)))
        have E1 := cell_regrown c1
        have E2 := cell_regrown c2
        have L0 := cell_regrown (rL.out.cell (i := 0) rfl)
        have A0 := cell_regrown (rA.out.cell (i := 0) rfl)
        have L1 := rL.out.cell (i := 0) rfl
        have A1 := rA.out.cell (i := 0) rfl
        have hmf : ∀ (fn : Fn) (first cap : Array Value) (w : World), (Instr.makeFunc fn first cap).run Try.prog w = .ok (.func fn first cap) w := fun _ _ _ _ => rfl
        rw [Hc.out] at c4
        clear c0 c1 c2 c3 C
        go_wp2_with fail
        refine wp_region_quiet_below (by kernel_rfl) (by kernel_rfl) ?_
        repeat (go_big_quiet_step ((go_at_call 41; exact HC.out _ _)))
        refine wpQuiet_nil ?_
        intro w2 hwq
        have hbq := below_of_regrown hwq
        clear hwq
        have hz2 := hz1a.trans (hbq.mono hz1a.size)
        go_wp2
        go_ret2
        exact ⟨by rw [HV.out]; rfl, hz2⟩

set_option maxRecDepth 100000 in
set_option maxHeartbeats 6400000 in
theorem responseHigh_impl (A : Option Addr) (n c : Nat) (xs : List T) (i : Int) (w : World) (h : RdT w A n c xs) :
    Calls Try.prog 31 #[.slice A n c, .int .i64 i] w fun e w' => e = .returned (.tuple #[.int .i64 ((rhV xs i).getD 0), .bool (rhV xs i).isSome]) ∧ Below w.heap.size w w' := by
  have hz0 := Below.refl w.heap.size w
  have q0 := Lib.hid h
  have hl := Lib.hid h.len
  have hcn := h.cap
  have hcm := h.max
  unfold maxLen at hcm
  clear h
  cases hp : plB xs i
  · have Hp := Lib.hid hp
    have HV := Lib.hid (rhV_no hp)
    clear hp
    go_enter Try.func31, Try.ntmps31
    go_wp2_with fail
    refine (placed_impl A n c xs i _ q0.out).mono ?_
    rw [Hp.out]
    rintro e w1 ⟨rfl, hb1⟩
    have hz1 := hz0.trans (hb1.mono hz0.size)
    clear hb1
    go_wp2
    go_ret2
    exact ⟨by rw [HV.out]; rfl, hz1⟩
  · have Hp := Lib.hid hp
    obtain ⟨hs, k, rfl, hk⟩ := plB_at hl.out hp
    have hxl : xs[k]? = some (atT xs k) := atT_get (by rw [hl.out]; exact hk)
    generalize atT xs k = x at *
    have Hx := Lib.hid hxl
    have i0 : (0 : Int) ≤ (k : Int) := by omega
    have i1 : (k : Int) < (n : Int) := by omega
    cases hc : x.crit
    · have HV := Lib.hid (rhV_low hxl hc)
      have Hc := Lib.hid hc
      clear hp hxl hs hc
      go_enter Try.func31, Try.ntmps31
      go_wp2_with fail
      refine (placed_impl A n c xs k _ q0.out).mono ?_
      rw [Hp.out]
      rintro e w1 ⟨rfl, hb1⟩
      have hz1 := hz0.trans (hb1.mono hz0.size)
      replace q0 := Lib.hid (q0.out.below hb1)
      clear hb1
      obtain ⟨b, off, x', hA, hx', hb, c0, c1, c2, c3, c4⟩ := q0.out.taskAt hk
      rw [Hx.out] at hx'
      injection hx' with hx'
      subst hA
      subst hx'
      rw [Hc.out] at c4
      go_wp2
      go_ret2
      exact ⟨by rw [HV.out]; rfl, hz1⟩
    · have HV := Lib.hid (rhV_yes hp hxl hc)
      have Hc := Lib.hid hc
      have hcv := Lib.hid (critV_yes hs)
      have hct := Lib.hid (critV_yes (sv_sub (List.take_sublist k xs) hs))
      clear hp hxl hs hc
      go_enter Try.func31, Try.ntmps31
      go_wp2_with fail
      refine (placed_impl A n c xs k _ q0.out).mono ?_
      rw [Hp.out]
      rintro e w1 ⟨rfl, hb1⟩
      have hz1 := hz0.trans (hb1.mono hz0.size)
      replace q0 := Lib.hid (q0.out.below hb1)
      clear hb1
      obtain ⟨b, off, x', hA, hx', hb, c0, c1, c2, c3, c4⟩ := q0.out.taskAt hk
      rw [Hx.out] at hx'
      injection hx' with hx'
      subst hA
      subst hx'
      rw [Hc.out] at c4
      have qt := Lib.hid (q0.out.take (m := k) (by omega))
      go_wp2_with fail
      refine (criticalOf_impl _ k c (xs.take k) w1 qt.out).mono ?_
      rintro e w2 ⟨D2, k2, d2, rfl, o2, hb2⟩
      have hz2 := hz1.trans (hb2.mono hz1.size)
      replace q0 := Lib.hid (q0.out.below hb2)
      clear hb2
      have hk2 := Lib.hid (show ((critL (xs.take k)).length : Int) = (k2 : Int) by rw [← hct.out, o2.2])
      clear o2
      go_wp2_with fail
      refine (criticalOf_impl _ n c xs w2 q0.out).mono ?_
      rintro e w3 ⟨D3, k3, d3, rfl, o3, hb3⟩
      have hz3 := hz2.trans (hb3.mono hz2.size)
      clear hb3
      have q3 := Lib.hid (show RdT w3 D3 k3 d3 (critL xs) from hcv.out ▸ Rd.of_own T.cells_len o3.1 o3.2)
      clear o3
      go_wp2_with fail
      refine (responseLow_impl D3 k3 d3 (critL xs) (k2 : Int) w3 q3.out).mono ?_
      rintro e w4 ⟨rfl, hb4⟩
      have hz4 := hz3.trans (hb4.mono hz3.size)
      clear hb4
      go_wp2
      go_ret2
      exact ⟨by rw [HV.out, hk2.out]; rfl, hz4⟩

set_option maxRecDepth 100000 in
set_option maxHeartbeats 6400000 in
theorem busyLow_impl (A : Option Addr) (n c : Nat) (xs : List T) (w : World) (h : RdT w A n c xs) :
    Calls Try.prog 28 #[.slice A n c] w fun e w' => e = .returned (.tuple #[.int .i64 ((busyV xs).getD 0), .bool (busyV xs).isSome]) ∧ Below w.heap.size w w' := by
  have hz0 := ((Below.refl w.heap.size w).alloc (Nat.le_refl _) (.cells #[.slice A n c] 23))
  have rL := Lib.hid (Blk.new w 23 #[.slice A n c])
  have q0 := Lib.hid (h.alloc (.cells #[.slice A n c] 23))
  have hl := Lib.hid h.len
  clear h
  cases hs : svB xs
  · have Hs := Lib.hid hs
    have HV := Lib.hid (show busyV xs = none by simp [busyV, hs])
    clear hs
    go_enter Try.func28, Try.ntmps28
    go_wp2_with fail
    refine (setValid_impl A n c xs _ q0.out).mono ?_
    rw [Hs.out]
    rintro e w1 ⟨rfl, hb1⟩
    have hz1 := hz0.trans (hb1.mono hz0.size)
    clear hb1
    go_wp2
    go_ret2
    exact ⟨by rw [HV.out]; rfl, hz1⟩
  · have Hs := Lib.hid hs
    by_cases hn : n = 0
    · subst hn
      have HV := Lib.hid (show busyV xs = none by
        have : xs = [] := List.eq_nil_of_length_eq_zero hl.out
        subst this; simp [busyV])
      clear hs
      go_enter Try.func28, Try.ntmps28
      go_wp2_with fail
      refine (setValid_impl A 0 c xs _ q0.out).mono ?_
      rw [Hs.out]
      rintro e w1 ⟨rfl, hb1⟩
      have hz1 := hz0.trans (hb1.mono hz0.size)
      replace rL := Lib.hid (rL.out.below hb1)
      clear hb1
      have L0 := rL.out.cell (i := 0) rfl
      go_wp2
      go_ret2
      exact ⟨by rw [HV.out]; rfl, hz1⟩
    · have hne : xs ≠ [] := fun e => by subst e; exact hn hl.out.symm
      have HV := Lib.hid (show busyV xs = riseAt (respF 0 gLow xs) (hyI xs) 1 by simp [busyV, hs, hne])
      have hn1 : 1 ≤ n := by omega
      have hnb : ((n : Int) == 0) = false := by simp; omega
      have Hn := Lib.hid hn
      clear hs hne hn
      go_enter Try.func28, Try.ntmps28
      go_wp2_with fail
      refine (setValid_impl A n c xs _ q0.out).mono ?_
      rw [Hs.out]
      rintro e w1 ⟨rfl, hb1⟩
      have hz1 := hz0.trans (hb1.mono hz0.size)
      replace rL := Lib.hid (rL.out.below hb1)
      replace q0 := Lib.hid (q0.out.below hb1)
      clear hb1
      have L0 := rL.out.cell (i := 0) rfl
      have L1 := rL.out.lt
      have hmf : ∀ (fn : Fn) (first cap : Array Value) (w : World), (Instr.makeFunc fn first cap).run Try.prog w = .ok (.func fn first cap) w := fun _ _ _ _ => rfl
      go_wp2_with fail
      refine (hyperOf_impl A n c xs w1 q0.out).mono ?_
      rintro e w2 ⟨rfl, hb2⟩
      have hz2 := hz1.trans (hb2.mono hz1.size)
      replace rL := Lib.hid (rL.out.below hb2)
      replace q0 := Lib.hid (q0.out.below hb2)
      clear hb2
      have hC := Lib.hid (busy_rises w.heap.size A n c xs w2 rL.out q0.out Hs.out Hn.out)
      generalize hyI xs = most at *
      go_wp2_with fail
      refine hC.out.mono ?_
      rintro e w3 ⟨rfl, hb3⟩
      have hz3 := hz2.trans (hb3.mono hz2.size)
      go_wp2
      go_ret2
      exact ⟨by rw [HV.out]; rfl, hz3⟩

set_option maxRecDepth 100000 in
set_option maxHeartbeats 3200000 in
theorem holds_impl (A : Option Addr) (n c : Nat) (xs : List T) (k : Nat) (w : World) (h : RdT w A n c xs) (hs : svB xs = true) (hk : k < n) :
    Calls Try.prog 51 #[.slice A n c, .int .i64 k] w fun e w' => e = .returned (.bool (endV xs k)) ∧ Below w.heap.size w w' := by
  have hz0 := Below.refl w.heap.size w
  have q0 := Lib.hid h
  have hp := plB_nat hs (show k < xs.length by rw [h.len]; exact hk)
  have hxl : xs[k]? = some (atT xs k) := atT_get (by rw [h.len]; exact hk)
  generalize atT xs k = x at *
  have Hx := Lib.hid hxl
  have Hp := Lib.hid hp
  have i0 : (0 : Int) ≤ (k : Int) := by omega
  have i1 : (k : Int) < (n : Int) := by omega
  clear h
  cases hc : x.crit
  · have HE := Lib.hid (endV_lo hp hxl hc)
    have Hc := Lib.hid hc
    clear hc hp hxl hs
    go_enter Try.func51, Try.ntmps51
    go_wp2_with fail
    refine (placed_impl A n c xs k _ q0.out).mono ?_
    rw [Hp.out]
    rintro e w1 ⟨rfl, hb1⟩
    have hz1 := hz0.trans (hb1.mono hz0.size)
    replace q0 := Lib.hid (q0.out.below hb1)
    clear hb1
    obtain ⟨b, off, x', hA, hx', hb, c0, c1, c2, c3, c4⟩ := q0.out.taskAt hk
    rw [Hx.out] at hx'
    injection hx' with hx'
    subst hA
    subst hx'
    rw [Hc.out] at c4
    go_wp2_with fail
    refine (responseLow_impl _ n c xs k w1 q0.out).mono ?_
    rintro e w2 ⟨rfl, hb2⟩
    have hz2 := hz1.trans (hb2.mono hz1.size)
    clear hb2
    generalize rlV xs (k : Int) = o at *
    go_wp2
    go_ret
    exact ⟨ret_bool HE.out.symm, hz2⟩
  · have HE := Lib.hid (endV_hi hp hxl hc)
    have Hc := Lib.hid hc
    clear hc hp hxl hs
    go_enter Try.func51, Try.ntmps51
    go_wp2_with fail
    refine (placed_impl A n c xs k _ q0.out).mono ?_
    rw [Hp.out]
    rintro e w1 ⟨rfl, hb1⟩
    have hz1 := hz0.trans (hb1.mono hz0.size)
    replace q0 := Lib.hid (q0.out.below hb1)
    clear hb1
    obtain ⟨b, off, x', hA, hx', hb, c0, c1, c2, c3, c4⟩ := q0.out.taskAt hk
    rw [Hx.out] at hx'
    injection hx' with hx'
    subst hA
    subst hx'
    rw [Hc.out] at c4
    go_wp2_with fail
    refine (responseSwitch_impl _ n c xs k w1 q0.out).mono ?_
    rintro e w2 ⟨rfl, hb2⟩
    have hz2 := hz1.trans (hb2.mono hz1.size)
    clear hb2
    generalize rsV xs (k : Int) = o at *
    go_wp2
    go_ret
    exact ⟨ret_bool HE.out.symm, hz2⟩

def natO (o : Option Nat) : Int := (o.getD 0 : Nat)
set_option maxRecDepth 100000 in
set_option maxHeartbeats 3200000 in
theorem firstBad_impl (A : Option Addr) (n c : Nat) (xs : List T) (w : World) (h : RdT w A n c xs) :
    Calls Try.prog 23 #[.slice A n c] w fun e w' => e = .returned (.tuple #[.int .i64 (natO (badV xs)), .bool (badV xs).isSome]) ∧ Below w.heap.size w w' := by
  have hz0 := Below.refl w.heap.size w
  have q0 := Lib.hid h
  have hl := Lib.hid h.len
  have hm : n ≤ maxLen := Nat.le_trans h.cap h.max
  unfold maxLen at hm
  clear h
  cases hs : svB xs
  · have Hs := Lib.hid hs
    have HV := Lib.hid (badV_no hs)
    clear hs
    go_enter Try.func23, Try.ntmps23
    go_wp2_with fail
    refine (setValid_impl A n c xs _ q0.out).mono ?_
    rw [Hs.out]
    rintro e w1 ⟨rfl, hb1⟩
    have hz1 := hz0.trans (hb1.mono hz0.size)
    clear hb1
    go_wp2
    go_ret2
    exact ⟨by rw [HV.out]; rfl, hz1⟩
  · have Hs := Lib.hid hs
    clear hs
    go_enter Try.func23, Try.ntmps23
    go_wp2_with fail
    refine (setValid_impl A n c xs _ q0.out).mono ?_
    rw [Hs.out]
    rintro e w1 ⟨rfl, hb1⟩
    have hz1 := hz0.trans (hb1.mono hz0.size)
    clear hb1
    go_wp2_with fail
    go_loopw [10] (fun i wr => ∃ k : Nat, i = .int .i64 k ∧ k ≤ n ∧ Hid (okTo xs k) ∧ Below w.heap.size w wr) (fun i _ => n - (intOf i).toNat)
    case atStart => exact ⟨0, rfl, Nat.zero_le _, Lib.hid (okTo_zero xs), hz1⟩
    case round =>
      obtain ⟨k, rfl, hk, hok, hbel⟩ := hrel
      by_cases hkn : k < n
      · have hC := Lib.hid (holds_impl A n c xs k wr (q0.out.below hbel) Hs.out hkn)
        cases he : endV xs k
        · have HV := Lib.hid (badV_at Hs.out hok.out (by rw [hl.out]; exact hkn) he)
          rw [he] at hC
          clear he
          go_wp2_with fail
          refine hC.out.mono ?_
          rintro e w2 ⟨rfl, hb2⟩
          have hz2 := hbel.trans (hb2.mono hbel.size)
          go_wp2
          go_ret2
          exact ⟨by rw [HV.out]; rfl, hz2⟩
        · have hok' := Lib.hid (okTo_succ hok.out he)
          rw [he] at hC
          clear he
          go_wp2_with fail
          refine hC.out.mono ?_
          rintro e w2 ⟨rfl, hb2⟩
          have hz2 := hbel.trans (hb2.mono hbel.size)
          go_wp2
          go_roundw
          case rel => exact ⟨k + 1, by go_num, by omega, hok', hz2⟩
          case measure => simp [intOf]; omega
      · have hkn' : k = n := by omega
        subst hkn'
        have HV := Lib.hid (badV_end hl.out hok.out)
        go_wp2
        go_ret2
        exact ⟨by rw [HV.out]; rfl, hbel⟩

set_option maxRecDepth 100000 in
set_option maxHeartbeats 3200000 in
theorem holdsBoth_impl (A : Option Addr) (n c : Nat) (xs : List T) (w : World) (h : RdT w A n c xs) :
    Calls Try.prog 26 #[.slice A n c] w fun e w' => e = .returned (.bool (bothB xs)) ∧ Below w.heap.size w w' := by
  have hz0 := Below.refl w.heap.size w
  have q0 := Lib.hid h
  have HB := Lib.hid (bothB_bad xs)
  clear h
  cases hs : svB xs
  all_goals
    have Hs := Lib.hid hs
    rw [hs] at HB
    clear hs
    go_enter Try.func26, Try.ntmps26
    go_wp2_with fail
    refine (firstBad_impl A n c xs w q0.out).mono ?_
    rintro e w1 ⟨rfl, hb1⟩
    have hz1 := hz0.trans (hb1.mono hz0.size)
    replace q0 := Lib.hid (q0.out.below hb1)
    clear hb1
    go_wp2_with fail
    refine (setValid_impl A n c xs w1 q0.out).mono ?_
    rw [Hs.out]
    rintro e w2 ⟨rfl, hb2⟩
    have hz2 := hz1.trans (hb2.mono hz1.size)
    clear hb2
    generalize badV xs = o at *
    go_wp2
    go_ret
    exact ⟨ret_bool (by rw [HB.out]; simp), hz2⟩


end Go.Proofs.Ytbfdpegjflhboaa
