/- The closures of responses, and the search for the least fixed point from below, of the program. Conditions: the tasks are valid. -/
import Derived.Test.YtdafioafbgkilaaDem
import Derived.Test.YtdafioafbgkilaaHyper
import Derived.Test.YtdafioafbgkilaaRespL
namespace Go.Proofs.Ytdafioafbgkilaa
open Go.RowKit
set_option linter.unusedVariables false

/-- what the closures captured: tasks, and a place -/
structure CapL (W : World) (B1 B2 : Nat) (A : Option Addr) (n c : Nat) (xs : List T) (k : Nat) : Prop where
  b1 : Blk W B1 23 #[.slice A n c]
  b2 : Blk W B2 3 #[.int .i64 k]
  rd : RdT W A n c xs
theorem CapL.below {W W' : World} {B1 B2 : Nat} {A : Option Addr} {n c : Nat} {xs : List T} {k : Nat} (h : CapL W B1 B2 A n c xs k) (hb : Below W.heap.size W W') : CapL W' B1 B2 A n c xs k :=
  ⟨h.b1.below hb, h.b2.below hb, h.rd.below hb⟩
theorem Blk.regrown {w : World} {g : Nat} {t : TypeId} {cs : Array Value} (h : Blk w g t cs) (d : Nat) (os : Array Obj) : Blk (Go.Sort.grow (redrawn w d) os) g t cs := h.below (below_regrown w d os)
theorem CapL.regrown {W : World} {B1 B2 : Nat} {A : Option Addr} {n c : Nat} {xs : List T} {k : Nat} (h : CapL W B1 B2 A n c xs k) (d : Nat) (os : Array Obj) : CapL (Go.Sort.grow (redrawn W d) os) B1 B2 A n c xs k := h.below (below_regrown W d os)
theorem respF_round {base : Int} {g : T → Int → Int} {xs : List T} {j : Nat} {y : T} (hy : xs[j]? = some y) (v : Int) : respF base g (xs.take (j + 1)) v = respF base g (xs.take j) v + g y v := by
  rw [take_succ_of hy, respF_snoc]
theorem sv_take {xs : List T} (h : svB xs = true) (k : Nat) : allTv (xs.take k) := fun t ht => (sv_all h).2 t (List.mem_of_mem_take ht)
theorem low_bd {base v : Int} {xs : List T} (h : svB xs = true) (k : Nat) (h0 : 0 ≤ v) (hb : 0 ≤ base) : 0 ≤ respF base gLow (xs.take k) v ∧ respF base gLow (xs.take k) v ≤ base + 5 * (v + 19) := by
  have hv := sv_take h k
  have h1 := low_ge (base := base) h0 hv
  have h2 := respF_bd (base := base) (g := gLow) (pre := xs.take k) (w := v) (B := v + 19) (fun t ht => dem_le (hv t ht) h0)
  have h3 : (xs.take k).length ≤ 5 := Nat.le_trans (List.length_take_le' ..) (sv_all h).1
  have h4 : ((xs.take k).length : Int) * (v + 19) ≤ 5 * (v + 19) := Int.mul_le_mul_of_nonneg_right (by omega) (by omega)
  omega
theorem sw_bd {base v low : Int} {xs : List T} (h : svB xs = true) (k : Nat) (h0 : 0 ≤ v) (hl : 0 ≤ low) (hb : 0 ≤ base) : 0 ≤ respF base (gSw low) (xs.take k) v ∧ respF base (gSw low) (xs.take k) v ≤ base + 5 * (v + low + 19) := by
  have hv := sv_take h k
  have h1 := sw_ge (base := base) h0 hl hv
  have h2 := respF_bd (base := base) (g := gSw low) (pre := xs.take k) (w := v) (B := v + low + 19) (fun t ht => (gSw_bd hl (hv t ht) h0).2)
  have h3 : (xs.take k).length ≤ 5 := Nat.le_trans (List.length_take_le' ..) (sv_all h).1
  have h4 : ((xs.take k).length : Int) * (v + low + 19) ≤ 5 * (v + low + 19) := Int.mul_le_mul_of_nonneg_right (by omega) (by omega)
  omega
theorem sv_at {xs : List T} {k : Nat} {x : T} (h : svB xs = true) (hx : xs[k]? = some x) : tvB x = true := (sv_all h).2 x (List.mem_of_getElem? hx)
theorem tv_bds {x : T} (h : tvB x = true) : 1 ≤ x.low ∧ x.low ≤ x.high ∧ x.high ≤ x.due ∧ x.due ≤ 20 := by
  have := (tvB_iff x).1 h
  omega







end Go.Proofs.Ytdafioafbgkilaa
