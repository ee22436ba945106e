/- The contracts of demand, DemandOf and l3Demand, and of l3At. Conditions: the task is valid, the window is small and not negative. -/
import Derived.Test.YtdafioafbgkilaaResp
import Derived.Test.YtdafioafbgkilaaPlacedS
import Derived.Test.YtdafioafbgkilaaDrawT
namespace Go.Proofs.Ytdafioafbgkilaa
open Go.RowKit
set_option linter.unusedVariables false

theorem dem_walk {hi : Bool} {t : T} (h : tvB t = true) {v : Int} (h0 : 0 ≤ v) (h1 : v ≤ 10000000) :
    ∃ q : Int, (v + t.every - 1) / t.every = q ∧ 0 ≤ q ∧ q ≤ 10000020 ∧ q * need hi t = dem hi t v ∧ 0 ≤ q * need hi t ∧ q * need hi t ≤ 10000020 := by
  have he := tv_every h
  have hn := need_bd (hi := hi) h
  refine ⟨_, rfl, Int.ediv_nonneg (by omega) (by omega), ?_, rfl, ?_, ?_⟩
  · have : (v + t.every - 1) / t.every ≤ v + t.every - 1 := Int.ediv_le_self _ (by omega)
    omega
  · exact dem_nonneg h h0
  · have := dem_le (hi := hi) h h0
    unfold dem at this
    omega





end Go.Proofs.Ytdafioafbgkilaa
