/- The closures of responses, and the search for the least fixed point from below, of the program. Conditions: the tasks are valid. -/
import Derived.Test.YtbfdpegjflhboaaDem
import Derived.Test.YtbfdpegjflhboaaHyper
import Derived.Test.YtbfdpegjflhboaaRespL
namespace Go.Proofs.Ytbfdpegjflhboaa
open Go.RowKit
set_option linter.unusedVariables false

/-- what the closures captured: tasks, and a place -/
structure CapL (W : World) (B1 B2 : Nat) (A : Option Addr) (n c : Nat) (xs : List T) (k : Nat) : Prop where
  b1 : Blk W B1 23 #[.slice A n c]
  b2 : Blk W B2 3 #[.int .i64 k]
  rd : RdT W A n c xs
theorem CapL.below {W W' : World} {B1 B2 : Nat} {A : Option Addr} {n c : Nat} {xs : List T} {k : Nat} (h : CapL W B1 B2 A n c xs k) (hb : Below W.heap.size W W') : CapL W' B1 B2 A n c xs k :=
  ⟨h.b1.below hb, h.b2.below hb, h.rd.below hb⟩
theorem Blk.regrown {w : World} {g : Nat} {t : TypeId} {cs : Array Value} (h : Blk w g t cs) (d : Nat) (os : Array Obj) : Blk (Go.Sort.grow (redrawn w d) os) g t cs := h.below (below_regrown w d os)
theorem CapL.regrown {W : World} {B1 B2 : Nat} {A : Option Addr} {n c : Nat} {xs : List T} {k : Nat} (h : CapL W B1 B2 A n c xs k) (d : Nat) (os : Array Obj) : CapL (Go.Sort.grow (redrawn W d) os) B1 B2 A n c xs k := h.below (below_regrown W d os)
theorem respF_round {base : Int} {g : T → Int → Int} {xs : List T} {j : Nat} {y : T} (hy : xs[j]? = some y) (v : Int) : respF base g (xs.take (j + 1)) v = respF base g (xs.take j) v + g y v := by
  rw [take_succ_of hy, respF_snoc]
theorem sv_take {xs : List T} (h : svB xs = true) (k : Nat) : allTv (xs.take k) := fun t ht => (sv_all h).2 t (List.mem_of_mem_take ht)
theorem low_bd {base v : Int} {xs : List T} (h : svB xs = true) (k : Nat) (h0 : 0 ≤ v) (hb : 0 ≤ base) : 0 ≤ respF base gLow (xs.take k) v ∧ respF base gLow (xs.take k) v ≤ base + 5 * (v + 19) := by
  have hv := sv_take h k
  have h1 := low_ge (base := base) h0 hv
  have h2 := respF_bd (base := base) (g := gLow) (pre := xs.take k) (w := v) (B := v + 19) (fun t ht => dem_le (hv t ht) h0)
  have h3 : (xs.take k).length ≤ 5 := Nat.le_trans (List.length_take_le' ..) (sv_all h).1
  have h4 : ((xs.take k).length : Int) * (v + 19) ≤ 5 * (v + 19) := Int.mul_le_mul_of_nonneg_right (by omega) (by omega)
  omega
theorem sw_bd {base v low : Int} {xs : List T} (h : svB xs = true) (k : Nat) (h0 : 0 ≤ v) (hl : 0 ≤ low) (hb : 0 ≤ base) : 0 ≤ respF base (gSw low) (xs.take k) v ∧ respF base (gSw low) (xs.take k) v ≤ base + 5 * (v + low + 19) := by
  have hv := sv_take h k
  have h1 := sw_ge (base := base) h0 hl hv
  have h2 := respF_bd (base := base) (g := gSw low) (pre := xs.take k) (w := v) (B := v + low + 19) (fun t ht => (gSw_bd hl (hv t ht) h0).2)
  have h3 : (xs.take k).length ≤ 5 := Nat.le_trans (List.length_take_le' ..) (sv_all h).1
  have h4 : ((xs.take k).length : Int) * (v + low + 19) ≤ 5 * (v + low + 19) := Int.mul_le_mul_of_nonneg_right (by omega) (by omega)
  omega
theorem sv_at {xs : List T} {k : Nat} {x : T} (h : svB xs = true) (hx : xs[k]? = some x) : tvB x = true := (sv_all h).2 x (List.mem_of_getElem? hx)
theorem tv_bds {x : T} (h : tvB x = true) : 1 ≤ x.low ∧ x.low ≤ x.high ∧ x.high ≤ x.due ∧ x.due ≤ 20 := by
  have := (tvB_iff x).1 h
  omega

set_option maxRecDepth 100000 in
set_option maxHeartbeats 3200000 in
theorem rlo_closure (B1 B2 : Nat) (A : Option Addr) (n c : Nat) (xs : List T) (k : Nat) (x : T) (v : Int) (W : World) (h : CapL W B1 B2 A n c xs k) (hk : k < n) (hs : svB xs = true) (hx : xs[k]? = some x) (h0 : 0 ≤ v) (h1 : v ≤ 1000) :
    Calls Try.prog 42 #[.int .i64 v, .pointer (some ⟨B1, 0, none⟩), .pointer (some ⟨B2, 0, none⟩)] W fun e W' => e = .returned (.int .i64 (respF x.low gLow (xs.take k) v)) ∧ Below W.heap.size W W' := by
  have e0 := h.b1.cell (i := 0) rfl
  have e1 := h.b2.cell (i := 0) rfl
  have hRD := h.rd
  have htx := tv_bds (sv_at hs hx)
  obtain ⟨t1, t2, t3, t4⟩ := htx
  have hm : n ≤ maxLen := Nat.le_trans hRD.cap hRD.max
  have hcm := hRD.max
  have hcn := hRD.cap
  unfold maxLen at hm hcm
  have hn5 : n ≤ 5 := by have := (sv_all hs).1; have := hRD.len; omega
  have q0 := Lib.hid hRD
  have Hs := Lib.hid hs
  obtain ⟨b, off, x', hA, hx', hb, c0, c1, c2, c3, c4⟩ := hRD.taskAt hk
  rw [hx] at hx'
  injection hx' with hx'
  subst hA
  subst hx'
  have i0 : (0 : Int) ≤ (k : Int) := by omega
  have i1 : (k : Int) < (n : Int) := by omega
  clear h hx hRD hs
  go_enter Try.func42, Try.ntmps42
  go_wp2_with fail
  go_loopw [5, 17] (fun sv i wr => ∃ j : Nat, i = .int .i64 j ∧ j ≤ k ∧ sv = .int .i64 (respF x.low gLow (xs.take j) v) ∧ Below W.heap.size W wr) (fun _ i _ => k - (intOf i).toNat)
  case atStart => exact ⟨0, rfl, Nat.zero_le _, by rw [List.take_zero, respF_nil], Below.refl _ _⟩
  case round =>
    obtain ⟨j, rfl, hj, rfl, hbel⟩ := hrel
    have hsz := hbel.size
    by_cases hjk : j < k
    · obtain ⟨b', off', y, hA, hy, hb', d0, d1, d2, d3, d4⟩ := (q0.out.below hbel).taskAt (i := j) (by omega)
      injection hA with hA
      injection hA with hA1 hA2
      subst hA1 hA2
      have hty := sv_at Hs.out hy
      have HS := Lib.hid (respF_round (base := x.low) (g := gLow) hy v)
      have hbd := low_bd (base := x.low) Hs.out j h0 (by omega)
      have g0 := dem_nonneg (hi := false) hty h0
      have g1 := dem_le (hi := false) hty h0
      have hz := hbel.alloc hsz (.cells #[.int .i64 y.low, .int .i64 y.high, .int .i64 y.due, .int .i64 y.every, .bool y.crit] 30)
      have hD := Lib.hid (fun w => demand_impl y v false w hty h0 (by omega))
      have hg : gLow y v = dem false y v := rfl
      rw [hg] at HS
      generalize dem false y v = dd at *
      generalize respF x.low gLow (xs.take j) v = s at *
      obtain ⟨b0, b1⟩ := hbd
      clear hy hbel hg
      go_wp2_with fail
      refine (hD.out _).mono ?_
      rintro e w1 ⟨rfl, hb1⟩
      go_wp2
      go_roundw
      case rel => exact ⟨j + 1, by go_num, by omega, by rw [HS.out], hz.trans (hb1.mono hz.size)⟩
      case measure => simp [intOf]; omega
    · have hjk' : j = k := by omega
      subst hjk'
      go_wp2
      go_ret
      exact ⟨rfl, hbel⟩

set_option maxRecDepth 100000 in
set_option maxHeartbeats 3200000 in
theorem rsw_closure (B1 B2 : Nat) (A : Option Addr) (n c : Nat) (xs : List T) (k : Nat) (x : T) (v : Int) (low : Int) (B3 : Nat) (W : World) (h : CapL W B1 B2 A n c xs k) (hk : k < n) (hs : svB xs = true) (hx : xs[k]? = some x) (b3 : Blk W B3 3 #[.int .i64 low]) (l0 : 0 ≤ low) (l1 : low ≤ 1000) (h0 : 0 ≤ v) (h1 : v ≤ 1000) :
    Calls Try.prog 47 #[.int .i64 v, .pointer (some ⟨B1, 0, none⟩), .pointer (some ⟨B2, 0, none⟩), .pointer (some ⟨B3, 0, none⟩)] W fun e W' => e = .returned (.int .i64 (respF x.high (gSw low) (xs.take k) v)) ∧ Below W.heap.size W W' := by
  have e0 := h.b1.cell (i := 0) rfl
  have e1 := h.b2.cell (i := 0) rfl
  have hRD := h.rd
  have htx := tv_bds (sv_at hs hx)
  obtain ⟨t1, t2, t3, t4⟩ := htx
  have r3 := Lib.hid b3
  have hm : n ≤ maxLen := Nat.le_trans hRD.cap hRD.max
  have hcm := hRD.max
  have hcn := hRD.cap
  unfold maxLen at hm hcm
  have hn5 : n ≤ 5 := by have := (sv_all hs).1; have := hRD.len; omega
  have q0 := Lib.hid hRD
  have Hs := Lib.hid hs
  obtain ⟨b, off, x', hA, hx', hb, c0, c1, c2, c3, c4⟩ := hRD.taskAt hk
  rw [hx] at hx'
  injection hx' with hx'
  subst hA
  subst hx'
  have i0 : (0 : Int) ≤ (k : Int) := by omega
  have i1 : (k : Int) < (n : Int) := by omega
  clear h hx hRD hs b3
  go_enter Try.func47, Try.ntmps47
  go_wp2_with fail
  go_loopw [6, 18] (fun sv i wr => ∃ j : Nat, i = .int .i64 j ∧ j ≤ k ∧ sv = .int .i64 (respF x.high (gSw low) (xs.take j) v) ∧ Below W.heap.size W wr) (fun _ i _ => k - (intOf i).toNat)
  case atStart => exact ⟨0, rfl, Nat.zero_le _, by rw [List.take_zero, respF_nil], Below.refl _ _⟩
  case round =>
    obtain ⟨j, rfl, hj, rfl, hbel⟩ := hrel
    have hsz := hbel.size
    by_cases hjk : j < k
    · obtain ⟨b', off', y, hA, hy, hb', d0, d1, d2, d3, d4⟩ := (q0.out.below hbel).taskAt (i := j) (by omega)
      injection hA with hA
      injection hA with hA1 hA2
      subst hA1 hA2
      have hty := sv_at Hs.out hy
      have HS := Lib.hid (respF_round (base := x.high) (g := gSw low) hy v)
      have hbd := sw_bd (base := x.high) (low := low) Hs.out j h0 l0 (by omega)
      obtain ⟨g0, g1⟩ := gSw_bd l0 hty h0
      have e3 := (r3.out.below hbel).cell (i := 0) rfl
      have e3l := (r3.out.below hbel).lt
      have hz := hbel.alloc hsz (.cells #[.int .i64 y.low, .int .i64 y.high, .int .i64 y.due, .int .i64 y.every, .bool y.crit] 30)
      have hD := Lib.hid (fun w => demand_impl y v true w hty h0 (by omega))
      have hDl := Lib.hid (fun w => demand_impl y low false w hty l0 (by omega))
      have hg := Lib.hid (show gSw low y v = if y.crit = true then dem true y v else dem false y low from rfl)
      generalize respF x.high (gSw low) (xs.take j) v = s at *
      obtain ⟨b0, b1⟩ := hbd
      clear hy hbel
      cases hc : y.crit
      · rw [hc] at d4
        have hg' := hg.out
        rw [hc, if_neg (by decide)] at hg'
        have Hg := Lib.hid hg'
        rw [hg'] at g0 g1
        replace hz := Lib.hid hz
        rw [hc] at hz hDl
        clear hg' hc hg hD
        generalize dem false y low = dd at *
        go_wp2_with fail
        refine (hDl.out _).mono ?_
        rintro e w1 ⟨rfl, hb1⟩
        go_wp2
        go_roundw
        case rel => exact ⟨j + 1, by go_num, by omega, by rw [HS.out, Hg.out], hz.out.trans (hb1.mono hz.out.size)⟩
        case measure => simp [intOf]; omega
      · rw [hc] at d4
        have hg' := hg.out
        rw [hc, if_pos rfl] at hg'
        have Hg := Lib.hid hg'
        rw [hg'] at g0 g1
        replace hz := Lib.hid hz
        rw [hc] at hz hD
        clear hg' hc hg hDl
        generalize dem true y v = dd at *
        go_wp2_with fail
        refine (hD.out _).mono ?_
        rintro e w1 ⟨rfl, hb1⟩
        go_wp2
        go_roundw
        case rel => exact ⟨j + 1, by go_num, by omega, by rw [HS.out, Hg.out], hz.out.trans (hb1.mono hz.out.size)⟩
        case measure => simp [intOf]; omega
    · have hjk' : j = k := by omega
      subst hjk'
      go_wp2
      go_ret
      exact ⟨rfl, hbel⟩

set_option maxRecDepth 100000 in
set_option maxHeartbeats 3200000 in
theorem busy_closure (B1 : Nat) (A : Option Addr) (n c : Nat) (xs : List T) (v : Int) (W : World) (b1 : Blk W B1 23 #[.slice A n c]) (rd : RdT W A n c xs) (hs : svB xs = true) (h0 : 0 ≤ v) (h1 : v ≤ 4000000) :
    Calls Try.prog 55 #[.int .i64 v, .pointer (some ⟨B1, 0, none⟩)] W fun e W' => e = .returned (.int .i64 (respF 0 gLow xs v)) ∧ Below W.heap.size W W' := by
  have e0 := b1.cell (i := 0) rfl
  have hRD := rd
  have hm : n ≤ maxLen := Nat.le_trans hRD.cap hRD.max
  have hcm := hRD.max
  have hcn := hRD.cap
  unfold maxLen at hm hcm
  have hn5 : n ≤ 5 := by have := (sv_all hs).1; have := hRD.len; omega
  have q0 := Lib.hid hRD
  have Hs := Lib.hid hs
  have hfin := Lib.hid (show respF 0 gLow (xs.take n) v = respF 0 gLow xs v by rw [List.take_of_length_le (by have := hRD.len; omega)])
  clear rd b1 hRD hs
  go_enter Try.func55, Try.ntmps55
  go_wp2_with fail
  go_loopw [4, 9] (fun sv i wr => ∃ j : Nat, i = .int .i64 j ∧ j ≤ n ∧ sv = .int .i64 (respF 0 gLow (xs.take j) v) ∧ Below W.heap.size W wr) (fun _ i _ => n - (intOf i).toNat)
  case atStart => exact ⟨0, rfl, Nat.zero_le _, by rw [List.take_zero, respF_nil], Below.refl _ _⟩
  case round =>
    obtain ⟨j, rfl, hj, rfl, hbel⟩ := hrel
    have hsz := hbel.size
    by_cases hjk : j < n
    · obtain ⟨b', off', y, hA, hy, hb', d0, d1, d2, d3, d4⟩ := (q0.out.below hbel).taskAt (i := j) (by omega)
      subst hA
      have hty := sv_at Hs.out hy
      have HS := Lib.hid (respF_round (base := 0) (g := gLow) hy v)
      have hbd := low_bd (base := 0) Hs.out j h0 (by omega)
      have g0 := dem_nonneg (hi := false) hty h0
      have g1 := dem_le (hi := false) hty h0
      have hz := hbel.alloc hsz (.cells #[.int .i64 y.low, .int .i64 y.high, .int .i64 y.due, .int .i64 y.every, .bool y.crit] 30)
      have hD := Lib.hid (fun w => demand_impl y v false w hty h0 (by omega))
      have hg : gLow y v = dem false y v := rfl
      rw [hg] at HS
      generalize dem false y v = dd at *
      generalize respF 0 gLow (xs.take j) v = s at *
      obtain ⟨b0, b1⟩ := hbd
      clear hy hbel hg
      go_wp2_with fail
      refine (hD.out _).mono ?_
      rintro e w1 ⟨rfl, hb1⟩
      go_wp2
      go_roundw
      case rel => exact ⟨j + 1, by go_num, by omega, by rw [HS.out], hz.trans (hb1.mono hz.size)⟩
      case measure => simp [intOf]; omega
    · have hjk' : j = n := by omega
      subst hjk'
      go_wp2
      go_ret
      exact ⟨ret_int hfin.out, hbel⟩

set_option maxRecDepth 100000 in
set_option maxHeartbeats 3200000 in
theorem rlo_rises (B1 B2 : Nat) (A : Option Addr) (n c : Nat) (xs : List T) (k : Nat) (x : T) (W : World) (h : CapL W B1 B2 A n c xs k) (hk : k < n) (hs : svB xs = true) (hx : xs[k]? = some x) :
    Calls Try.prog 41 #[.int .i64 x.low, .int .i64 x.due, .func (.func 42) #[] #[.pointer (some ⟨B1, 0, none⟩), .pointer (some ⟨B2, 0, none⟩)]] W fun e W' => e = .returned (.tuple #[.int .i64 ((rlo (xs.take k) x).getD 0), .bool (rlo (xs.take k) x).isSome]) ∧ Below W.heap.size W W' := by
  obtain ⟨t1, t2, t3, t4⟩ := tv_bds (sv_at hs hx)
  have hC := Lib.hid (fun (v : Int) (W' : World) (hb : Below W.heap.size W W') (h0 : 0 ≤ v) (h1 : v ≤ 1000) => rlo_closure B1 B2 A n c xs k x v W' (h.below hb) hk hs hx h0 h1)
  have hmono := low_monoF (base := x.low) (s := x.low) (by omega) (sv_take hs k)
  have hge := low_ge (base := x.low) (w := x.low) (by omega) (sv_take hs k)
  obtain ⟨R, hR0⟩ : ∃ R, riseAt (respF x.low gLow (xs.take k)) x.due x.low = R := ⟨_, rfl⟩
  rw [show rlo (xs.take k) x = R from hR0]
  replace hR0 := Lib.hid hR0
  generalize respF x.low gLow (xs.take k) = F at *
  replace hmono := Lib.hid hmono
  replace hge := Lib.hid hge
  clear h hk hs hx
  go_enter Try.func41, Try.ntmps41
  go_wp2_with fail
  go_loopw [8] (fun wv wr => ∃ v : Int, wv = .int .i64 v ∧ x.low ≤ v ∧ Hid (v ≤ F v) ∧ Hid (riseAt F x.due v = R) ∧ Below W.heap.size W wr) (fun wv _ => (x.due + 1 - intOf wv).toNat)
  case atStart => exact ⟨_, rfl, Int.le_refl _, hge, hR0, Below.refl _ _⟩
  case round =>
    obtain ⟨v, rfl, hv0, hv1, hR, hbel⟩ := hrel
    by_cases hle : v ≤ x.due
    · have hC1 := Lib.hid (hC.out v _ hbel (by omega) (by omega))
      by_cases he : F v = v
      · have HR := Lib.hid (show R = some v by rw [← hR.out, riseAt_here hle he])
        have hb : (F v == v) = true := by simpa using he
        rw [he] at hC1
        clear he hb
        have hb2 : ((v : Int) == v) = true := by simp
        go_wp2_with fail
        refine hC1.out.mono ?_
        rintro e w1 ⟨rfl, hb1⟩
        have hbw := hbel.trans (hb1.mono hbel.size)
        go_wp2
        go_ret2
        exact ⟨by rw [HR.out]; rfl, hbw⟩
      · have hnx := Lib.hid (riseAt_next hmono.out hv0 hv1.out hle he)
        have hmn := Lib.hid (hmono.out v (F v) hv0 hv1.out)
        have hlt : v < F v := by have := hv1.out; omega
        generalize F v = u at *
        have hb : (u == v) = false := by simp; omega
        clear he
        go_wp2_with fail
        refine hC1.out.mono ?_
        rintro e w1 ⟨rfl, hb1⟩
        have hbw := hbel.trans (hb1.mono hbel.size)
        go_wp2
        go_roundw
        case rel => exact ⟨u, rfl, by omega, hmn, Lib.hid (hnx.out.symm.trans hR.out), hbw⟩
        case measure => simp [intOf]; omega
    · have HR := Lib.hid (show R = none by rw [← hR.out, riseAt_past hle])
      go_wp2
      go_ret2
      exact ⟨by rw [HR.out]; rfl, hbel⟩

set_option maxRecDepth 100000 in
set_option maxHeartbeats 3200000 in
theorem rsw_rises (B1 B2 : Nat) (A : Option Addr) (n c : Nat) (xs : List T) (k : Nat) (x : T) (low : Int) (B3 : Nat) (W : World) (h : CapL W B1 B2 A n c xs k) (hk : k < n) (hs : svB xs = true) (hx : xs[k]? = some x) (b3 : Blk W B3 3 #[.int .i64 low]) (l0 : 0 ≤ low) (l1 : low ≤ 1000) :
    Calls Try.prog 41 #[.int .i64 x.high, .int .i64 x.due, .func (.func 47) #[] #[.pointer (some ⟨B1, 0, none⟩), .pointer (some ⟨B2, 0, none⟩), .pointer (some ⟨B3, 0, none⟩)]] W fun e W' => e = .returned (.tuple #[.int .i64 ((rswF low (xs.take k) x).getD 0), .bool (rswF low (xs.take k) x).isSome]) ∧ Below W.heap.size W W' := by
  obtain ⟨t1, t2, t3, t4⟩ := tv_bds (sv_at hs hx)
  have hC := Lib.hid (fun (v : Int) (W' : World) (hb : Below W.heap.size W W') (h0 : 0 ≤ v) (h1 : v ≤ 1000) => rsw_closure B1 B2 A n c xs k x v low B3 W' (h.below hb) hk hs hx (b3.below hb) l0 l1 h0 h1)
  have hmono := sw_monoF (base := x.high) (s := x.high) (low := low) (by omega) (sv_take hs k)
  have hge := sw_ge (base := x.high) (w := x.high) (low := low) (by omega) l0 (sv_take hs k)
  obtain ⟨R, hR0⟩ : ∃ R, riseAt (respF x.high (gSw low) (xs.take k)) x.due x.high = R := ⟨_, rfl⟩
  rw [show rswF low (xs.take k) x = R from hR0]
  replace hR0 := Lib.hid hR0
  generalize respF x.high (gSw low) (xs.take k) = F at *
  replace hmono := Lib.hid hmono
  replace hge := Lib.hid hge
  clear h hk hs hx b3
  go_enter Try.func41, Try.ntmps41
  go_wp2_with fail
  go_loopw [8] (fun wv wr => ∃ v : Int, wv = .int .i64 v ∧ x.high ≤ v ∧ Hid (v ≤ F v) ∧ Hid (riseAt F x.due v = R) ∧ Below W.heap.size W wr) (fun wv _ => (x.due + 1 - intOf wv).toNat)
  case atStart => exact ⟨_, rfl, Int.le_refl _, hge, hR0, Below.refl _ _⟩
  case round =>
    obtain ⟨v, rfl, hv0, hv1, hR, hbel⟩ := hrel
    by_cases hle : v ≤ x.due
    · have hC1 := Lib.hid (hC.out v _ hbel (by omega) (by omega))
      by_cases he : F v = v
      · have HR := Lib.hid (show R = some v by rw [← hR.out, riseAt_here hle he])
        have hb : (F v == v) = true := by simpa using he
        rw [he] at hC1
        clear he hb
        have hb2 : ((v : Int) == v) = true := by simp
        go_wp2_with fail
        refine hC1.out.mono ?_
        rintro e w1 ⟨rfl, hb1⟩
        have hbw := hbel.trans (hb1.mono hbel.size)
        go_wp2
        go_ret2
        exact ⟨by rw [HR.out]; rfl, hbw⟩
      · have hnx := Lib.hid (riseAt_next hmono.out hv0 hv1.out hle he)
        have hmn := Lib.hid (hmono.out v (F v) hv0 hv1.out)
        have hlt : v < F v := by have := hv1.out; omega
        generalize F v = u at *
        have hb : (u == v) = false := by simp; omega
        clear he
        go_wp2_with fail
        refine hC1.out.mono ?_
        rintro e w1 ⟨rfl, hb1⟩
        have hbw := hbel.trans (hb1.mono hbel.size)
        go_wp2
        go_roundw
        case rel => exact ⟨u, rfl, by omega, hmn, Lib.hid (hnx.out.symm.trans hR.out), hbw⟩
        case measure => simp [intOf]; omega
    · have HR := Lib.hid (show R = none by rw [← hR.out, riseAt_past hle])
      go_wp2
      go_ret2
      exact ⟨by rw [HR.out]; rfl, hbel⟩

set_option maxRecDepth 100000 in
set_option maxHeartbeats 3200000 in
theorem busy_rises (B1 : Nat) (A : Option Addr) (n c : Nat) (xs : List T) (W : World) (b1 : Blk W B1 23 #[.slice A n c]) (rd : RdT W A n c xs) (hs : svB xs = true) (hn : n ≠ 0) :
    Calls Try.prog 41 #[.int .i64 1, .int .i64 (hyI xs), .func (.func 55) #[] #[.pointer (some ⟨B1, 0, none⟩)]] W fun e W' => e = .returned (.tuple #[.int .i64 ((riseAt (respF 0 gLow xs) (hyI xs) 1).getD 0), .bool (riseAt (respF 0 gLow xs) (hyI xs) 1).isSome]) ∧ Below W.heap.size W W' := by
  have hH := hyI_le hs
  generalize hyI xs = most at *
  have hp1 := Lib.hid b1
  have hp2 := Lib.hid rd
  have hC := Lib.hid (fun (v : Int) (W' : World) (hb : Below W.heap.size W W') (h0 : 0 ≤ v) (h1 : v ≤ 4000000) => busy_closure B1 A n c xs v W' (b1.below hb) (rd.below hb) hs h0 h1)
  have hv := sv_take hs n
  rw [List.take_of_length_le (by have := rd.len; omega)] at hv
  have hmono := low_monoF (base := 0) (s := 1) (by omega) hv
  have hge : n ≠ 0 → (1 : Int) ≤ respF 0 gLow xs 1 := fun hn => busy_ge hs (by intro he; subst he; exact hn rd.len.symm)
  replace hge := hge hn
  obtain ⟨R, hR0⟩ : ∃ R, riseAt (respF 0 gLow xs) most 1 = R := ⟨_, rfl⟩
  rw [hR0]
  replace hR0 := Lib.hid hR0
  generalize respF 0 gLow xs = F at *
  replace hmono := Lib.hid hmono
  replace hge := Lib.hid hge
  clear b1 rd hs hv hn
  go_enter Try.func41, Try.ntmps41
  go_wp2_with fail
  go_loopw [8] (fun wv wr => ∃ v : Int, wv = .int .i64 v ∧ 1 ≤ v ∧ Hid (v ≤ F v) ∧ Hid (riseAt F most v = R) ∧ Below W.heap.size W wr) (fun wv _ => (most + 1 - intOf wv).toNat)
  case atStart => exact ⟨_, rfl, Int.le_refl _, hge, hR0, Below.refl _ _⟩
  case round =>
    obtain ⟨v, rfl, hv0, hv1, hR, hbel⟩ := hrel
    by_cases hle : v ≤ most
    · have hC1 := Lib.hid (hC.out v _ hbel (by omega) (by omega))
      by_cases he : F v = v
      · have HR := Lib.hid (show R = some v by rw [← hR.out, riseAt_here hle he])
        have hb : (F v == v) = true := by simpa using he
        rw [he] at hC1
        clear he hb
        have hb2 : ((v : Int) == v) = true := by simp
        go_wp2_with fail
        refine hC1.out.mono ?_
        rintro e w1 ⟨rfl, hb1⟩
        have hbw := hbel.trans (hb1.mono hbel.size)
        go_wp2
        go_ret2
        exact ⟨by rw [HR.out]; rfl, hbw⟩
      · have hnx := Lib.hid (riseAt_next hmono.out hv0 hv1.out hle he)
        have hmn := Lib.hid (hmono.out v (F v) hv0 hv1.out)
        have hlt : v < F v := by have := hv1.out; omega
        generalize F v = u at *
        have hb : (u == v) = false := by simp; omega
        clear he
        go_wp2_with fail
        refine hC1.out.mono ?_
        rintro e w1 ⟨rfl, hb1⟩
        have hbw := hbel.trans (hb1.mono hbel.size)
        go_wp2
        go_roundw
        case rel => exact ⟨u, rfl, by omega, hmn, Lib.hid (hnx.out.symm.trans hR.out), hbw⟩
        case measure => simp [intOf]; omega
    · have HR := Lib.hid (show R = none by rw [← hR.out, riseAt_past hle])
      go_wp2
      go_ret2
      exact ⟨by rw [HR.out]; rfl, hbel⟩

end Go.Proofs.Ytbfdpegjflhboaa
