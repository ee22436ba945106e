/- The contracts of demand, DemandOf and l3Demand, and of l3At. Conditions: the task is valid, the window is small and not negative. -/
import Derived.Test.YtbfdpegjflhboaaResp
import Derived.Test.YtbfdpegjflhboaaPlacedS
import Derived.Test.YtbfdpegjflhboaaDrawT
namespace Go.Proofs.Ytbfdpegjflhboaa
open Go.RowKit
set_option linter.unusedVariables false

theorem dem_walk {hi : Bool} {t : T} (h : tvB t = true) {v : Int} (h0 : 0 ≤ v) (h1 : v ≤ 10000000) :
    ∃ q : Int, (v + t.every - 1) / t.every = q ∧ 0 ≤ q ∧ q ≤ 10000020 ∧ q * need hi t = dem hi t v ∧ 0 ≤ q * need hi t ∧ q * need hi t ≤ 10000020 := by
  have he := tv_every h
  have hn := need_bd (hi := hi) h
  refine ⟨_, rfl, Int.ediv_nonneg (by omega) (by omega), ?_, rfl, ?_, ?_⟩
  · have : (v + t.every - 1) / t.every ≤ v + t.every - 1 := Int.ediv_le_self _ (by omega)
    omega
  · exact dem_nonneg h h0
  · have := dem_le (hi := hi) h h0
    unfold dem at this
    omega

set_option maxRecDepth 100000 in
set_option maxHeartbeats 1600000 in
theorem demand_impl (t : T) (v : Int) (hi : Bool) (w : World) (ht : tvB t = true) (h0 : 0 ≤ v) (h1 : v ≤ 10000000) :
    Calls Try.prog 43 #[.agg #[.int .i64 t.low, .int .i64 t.high, .int .i64 t.due, .int .i64 t.every, .bool t.crit], .int .i64 v, .bool hi] w fun e w' => e = .returned (.int .i64 (dem hi t v)) ∧ Below w.heap.size w w' := by
  obtain ⟨he1, he2⟩ := tv_every ht
  have hb : Below w.heap.size w (w.alloc (.cells #[.int .i64 t.low, .int .i64 t.high, .int .i64 t.due, .int .i64 t.every, .bool t.crit] 30)) := (Below.refl _ _).alloc (Nat.le_refl _) _
  cases hi
  · obtain ⟨q, hq, q0, q1, hd, d0, d1⟩ := dem_walk (hi := false) ht h0 h1
    have HD := Lib.hid hd
    rw [show need false t = t.low from rfl] at d0 d1
    clear hd ht
    go_enter Try.func43, Try.ntmps43
    go_wp2
    go_ret
    exact ⟨ret_int HD.out, hb⟩
  · obtain ⟨q, hq, q0, q1, hd, d0, d1⟩ := dem_walk (hi := true) ht h0 h1
    have HD := Lib.hid hd
    rw [show need true t = t.high from rfl] at d0 d1
    clear hd ht
    go_enter Try.func43, Try.ntmps43
    go_wp2
    go_ret
    exact ⟨ret_int HD.out, hb⟩

set_option maxRecDepth 100000 in
set_option maxHeartbeats 1600000 in
theorem demand_spec (t : T) (v : Int) (hi : Bool) (w : World) (ht : tvB t = true) (h0 : 0 ≤ v) (h1 : v ≤ 10000000) :
    Calls Try.prog 45 #[.agg #[.int .i64 t.low, .int .i64 t.high, .int .i64 t.due, .int .i64 t.every, .bool t.crit], .int .i64 v, .bool hi] w fun e w' => e = .returned (.int .i64 (dem hi t v)) ∧ Below w.heap.size w w' := by
  obtain ⟨he1, he2⟩ := tv_every ht
  have hb : Below w.heap.size w (w.alloc (.cells #[.int .i64 t.low, .int .i64 t.high, .int .i64 t.due, .int .i64 t.every, .bool t.crit] 30)) := (Below.refl _ _).alloc (Nat.le_refl _) _
  cases hi
  · obtain ⟨q, hq, q0, q1, hd, d0, d1⟩ := dem_walk (hi := false) ht h0 h1
    have HD := Lib.hid hd
    rw [show need false t = t.low from rfl] at d0 d1
    clear hd ht
    go_enter Try.func45, Try.ntmps45
    go_wp2
    go_ret
    exact ⟨ret_int HD.out, hb⟩
  · obtain ⟨q, hq, q0, q1, hd, d0, d1⟩ := dem_walk (hi := true) ht h0 h1
    have HD := Lib.hid hd
    rw [show need true t = t.high from rfl] at d0 d1
    clear hd ht
    go_enter Try.func45, Try.ntmps45
    go_wp2
    go_ret
    exact ⟨ret_int HD.out, hb⟩

set_option maxRecDepth 100000 in
set_option maxHeartbeats 1600000 in
theorem demandOf_impl (t : T) (v : Int) (hi : Bool) (w : World) (ht : tvB t = true) (h0 : 0 ≤ v) (h1 : v ≤ 1000000) :
    Calls Try.prog 36 #[.agg #[.int .i64 t.low, .int .i64 t.high, .int .i64 t.due, .int .i64 t.every, .bool t.crit], .int .i64 v, .bool hi] w fun e w' => e = .returned (.tuple #[.int .i64 (dem hi t v), .bool true]) ∧ Below w.heap.size w w' := by
  have hz0 : Below w.heap.size w (w.alloc (.cells #[.int .i64 t.low, .int .i64 t.high, .int .i64 t.due, .int .i64 t.every, .bool t.crit] 30)) := (Below.refl _ _).alloc (Nat.le_refl _) _
  have rT := Lib.hid (Blk.new w 30 #[.int .i64 t.low, .int .i64 t.high, .int .i64 t.due, .int .i64 t.every, .bool t.crit])
  have hV := Lib.hid (fun w => taskValid_impl t w)
  have hD := Lib.hid (fun w => demand_impl t v hi w ht h0 (by omega))
  rw [ht] at hV
  clear ht
  go_enter Try.func36, Try.ntmps36
  go_wp2_with fail
  refine (hV.out _).mono ?_
  rintro e w1 ⟨rfl, hb1⟩
  have hz1 := hz0.trans (hb1.mono hz0.size)
  replace rT := Lib.hid (rT.out.below hb1)
  clear hb1
  have c0 := rT.out.cell (i := 0) rfl
  have c1 := rT.out.cell (i := 1) rfl
  have c2 := rT.out.cell (i := 2) rfl
  have c3 := rT.out.cell (i := 3) rfl
  have c4 := rT.out.cell (i := 4) rfl
  go_wp2_with fail
  refine (hD.out _).mono ?_
  rintro e w2 ⟨rfl, hb2⟩
  have hz2 := hz1.trans (hb2.mono hz1.size)
  clear hb2
  go_wp2
  go_ret2
  exact ⟨rfl, hz2⟩


end Go.Proofs.Ytbfdpegjflhboaa
