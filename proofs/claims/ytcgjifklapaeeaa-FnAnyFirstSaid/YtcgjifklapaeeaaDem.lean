/- The contracts of demand, DemandOf and l3Demand, and of l3At. Conditions: the task is valid, the window is small and not negative. -/
import Derived.Test.YtcgjifklapaeeaaResp
import Derived.Test.YtcgjifklapaeeaaPlacedS
import Derived.Test.YtcgjifklapaeeaaDrawT
namespace Go.Proofs.Ytcgjifklapaeeaa
open Go.RowKit
set_option linter.unusedVariables false

theorem dem_walk {hi : Bool} {t : T} (h : tvB t = true) {v : Int} (h0 : 0 ≤ v) (h1 : v ≤ 10000000) :
    ∃ q : Int, (v + t.every - 1) / t.every = q ∧ 0 ≤ q ∧ q ≤ 10000020 ∧ q * need hi t = dem hi t v ∧ 0 ≤ q * need hi t ∧ q * need hi t ≤ 10000020 := by
  have he := tv_every h
  have hn := need_bd (hi := hi) h
  refine ⟨_, rfl, Int.ediv_nonneg (by omega) (by omega), ?_, rfl, ?_, ?_⟩
  · have : (v + t.every - 1) / t.every ≤ v + t.every - 1 := Int.ediv_le_self _ (by omega)
    omega
  · exact dem_nonneg h h0
  · have := dem_le (hi := hi) h h0
    unfold dem at this
    omega

set_option maxRecDepth 100000 in
set_option maxHeartbeats 1600000 in
theorem demand_impl (t : T) (v : Int) (hi : Bool) (w : World) (ht : tvB t = true) (h0 : 0 ≤ v) (h1 : v ≤ 10000000) :
    Calls Try.prog 72 #[.agg #[.int .i64 t.low, .int .i64 t.high, .int .i64 t.due, .int .i64 t.every, .bool t.crit], .int .i64 v, .bool hi] w fun e w' => e = .returned (.int .i64 (dem hi t v)) ∧ Below w.heap.size w w' := by
  obtain ⟨he1, he2⟩ := tv_every ht
  have hb : Below w.heap.size w (w.alloc (.cells #[.int .i64 t.low, .int .i64 t.high, .int .i64 t.due, .int .i64 t.every, .bool t.crit] 40)) := (Below.refl _ _).alloc (Nat.le_refl _) _
  cases hi
  · obtain ⟨q, hq, q0, q1, hd, d0, d1⟩ := dem_walk (hi := false) ht h0 h1
    have HD := Lib.hid hd
    rw [show need false t = t.low from rfl] at d0 d1
    clear hd ht
    go_enter Try.func72, Try.ntmps72
    go_wp2
    go_ret
    exact ⟨ret_int HD.out, hb⟩
  · obtain ⟨q, hq, q0, q1, hd, d0, d1⟩ := dem_walk (hi := true) ht h0 h1
    have HD := Lib.hid hd
    rw [show need true t = t.high from rfl] at d0 d1
    clear hd ht
    go_enter Try.func72, Try.ntmps72
    go_wp2
    go_ret
    exact ⟨ret_int HD.out, hb⟩

set_option maxRecDepth 100000 in
set_option maxHeartbeats 1600000 in
theorem demand_spec (t : T) (v : Int) (hi : Bool) (w : World) (ht : tvB t = true) (h0 : 0 ≤ v) (h1 : v ≤ 10000000) :
    Calls Try.prog 69 #[.agg #[.int .i64 t.low, .int .i64 t.high, .int .i64 t.due, .int .i64 t.every, .bool t.crit], .int .i64 v, .bool hi] w fun e w' => e = .returned (.int .i64 (dem hi t v)) ∧ Below w.heap.size w w' := by
  obtain ⟨he1, he2⟩ := tv_every ht
  have hb : Below w.heap.size w (w.alloc (.cells #[.int .i64 t.low, .int .i64 t.high, .int .i64 t.due, .int .i64 t.every, .bool t.crit] 40)) := (Below.refl _ _).alloc (Nat.le_refl _) _
  cases hi
  · obtain ⟨q, hq, q0, q1, hd, d0, d1⟩ := dem_walk (hi := false) ht h0 h1
    have HD := Lib.hid hd
    rw [show need false t = t.low from rfl] at d0 d1
    clear hd ht
    go_enter Try.func69, Try.ntmps69
    go_wp2
    go_ret
    exact ⟨ret_int HD.out, hb⟩
  · obtain ⟨q, hq, q0, q1, hd, d0, d1⟩ := dem_walk (hi := true) ht h0 h1
    have HD := Lib.hid hd
    rw [show need true t = t.high from rfl] at d0 d1
    clear hd ht
    go_enter Try.func69, Try.ntmps69
    go_wp2
    go_ret
    exact ⟨ret_int HD.out, hb⟩



end Go.Proofs.Ytcgjifklapaeeaa
