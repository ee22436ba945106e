/- Words for memory that all walks of this seat share: a slice that reads as a list of tasks, jobs or numbers. No condition; plain definitions and lemmas. -/
import Derived.WalkKit
import Derived.WalkLawsBesides
import Derived.BigQuiet
import Derived.Deep.QuietTactic
import Derived.Deep.RegionHeld3
import Derived.Lib.Hide
import Derived.Lib.QuietBelow
import Derived.Outline
namespace Go.Proofs.Ytbfdpegjflhboaa
open Go.RowKit
set_option linter.unusedVariables false

structure T where
  low : Int
  high : Int
  due : Int
  every : Int
  crit : Bool
  deriving DecidableEq, Inhabited

structure J where
  task : Int
  at_ : Int
  need : Int
  deriving DecidableEq, Inhabited

structure S where
  num : Int
  den : Int
  deriving DecidableEq, Inhabited

def T.cells (t : T) : List Value := [.int .i64 t.low, .int .i64 t.high, .int .i64 t.due, .int .i64 t.every, .bool t.crit]
def J.cells (t : J) : List Value := [.int .i64 t.task, .int .i64 t.at_, .int .i64 t.need]
def icells (n : Int) : List Value := [.int .i64 n]
def bcells (x : UInt8) : List Value := [.int .u8 x.toNat]

/-- The slice value '.slice A n c' reads as the list xs, each element k cells by enc. -/
structure Rd {α : Type} (k : Nat) (enc : α → List Value) (w : World) (A : Option Addr) (n c : Nat) (xs : List α) : Prop where
  len : xs.length = n
  cap : n ≤ c
  max : c ≤ maxLen
  cells : 0 < n → ∃ b off, A = some ⟨b, off, none⟩ ∧ ∀ i x, xs[i]? = some x → ∀ j u, (enc x)[j]? = some u → w.cell? ⟨b, off + i * k + j, none⟩ = some u

abbrev RdT := Rd 5 T.cells
abbrev RdJ := Rd 3 J.cells
abbrev RdI := Rd 1 icells
abbrev RdB := Rd 1 bcells

theorem lt_of_cell {w : World} {b o : Nat} {v : Value} (h : w.cell? ⟨b, o, none⟩ = some v) : b < w.heap.size := World.block_lt_of_cell? w ⟨b, o, none⟩ h

section
variable {α : Type} {k : Nat} {enc : α → List Value} {w w' : World} {A : Option Addr} {n c : Nat} {xs : List α}

theorem Rd.nil (hn : c ≤ maxLen) : Rd k enc w A 0 c [] := ⟨rfl, Nat.zero_le _, hn, fun h => absurd h (by omega)⟩

/-- kept where every cell below the heap's size is kept -/
theorem Rd.keep (h : Rd k enc w A n c xs) (hk : ∀ b o, b < w.heap.size → w'.cell? ⟨b, o, none⟩ = w.cell? ⟨b, o, none⟩) : Rd k enc w' A n c xs := by
  refine ⟨h.len, h.cap, h.max, fun h0 => ?_⟩
  obtain ⟨b, off, e, hc⟩ := h.cells h0
  refine ⟨b, off, e, fun i x hx j u hu => ?_⟩
  have h1 := hc i x hx j u hu
  rw [hk b _ (lt_of_cell h1)]
  exact h1

theorem Rd.below (h : Rd k enc w A n c xs) (hb : Below w.heap.size w w') : Rd k enc w' A n c xs :=
  h.keep fun b o hlt => hb.cell (p := ⟨b, o, none⟩) hlt
theorem Rd.drew (h : Rd k enc w A n c xs) : Rd k enc w.drew A n c xs := h.keep fun _ _ _ => rfl
theorem Rd.drewN (h : Rd k enc w A n c xs) (m : Nat) : Rd k enc (w.drewN m) A n c xs := h.keep fun _ _ _ => rfl
theorem Rd.alloc (h : Rd k enc w A n c xs) (o : Obj) : Rd k enc (w.alloc o) A n c xs :=
  h.keep fun b i hlt => World.cell?_alloc_lt w o ⟨b, i, none⟩ hlt

/-- a cut at the front: s[:m] -/
theorem Rd.take (h : Rd k enc w A n c xs) {m : Nat} (hm : m ≤ n) : Rd k enc w A m c (xs.take m) := by
  refine ⟨by rw [List.length_take, h.len]; omega, Nat.le_trans hm h.cap, h.max, fun h0 => ?_⟩
  obtain ⟨b, off, e, hc⟩ := h.cells (by omega)
  refine ⟨b, off, e, fun i x hx j u hu => hc i x ?_ j u hu⟩
  rw [List.getElem?_take] at hx
  split at hx
  · exact hx
  · cases hx
end

section
variable {w : World} {A : Option Addr} {n c : Nat}

theorem Rd.taskAt {xs : List T} (h : Rd 5 T.cells w A n c xs) {i : Nat} (hi : i < n) : ∃ b off x, A = some ⟨b, off, none⟩ ∧ xs[i]? = some x ∧ b < w.heap.size ∧
    w.cell? ⟨b, off + i * 5, none⟩ = some (.int .i64 x.low) ∧ w.cell? ⟨b, off + i * 5 + 1, none⟩ = some (.int .i64 x.high) ∧ w.cell? ⟨b, off + i * 5 + 2, none⟩ = some (.int .i64 x.due) ∧
    w.cell? ⟨b, off + i * 5 + 3, none⟩ = some (.int .i64 x.every) ∧ w.cell? ⟨b, off + i * 5 + 4, none⟩ = some (.bool x.crit) := by
  obtain ⟨b, off, e, hc⟩ := h.cells (by omega)
  have hl : i < xs.length := by rw [h.len]; exact hi
  have hx : xs[i]? = some xs[i] := List.getElem?_eq_getElem hl
  have h0 := hc i _ hx 0 _ rfl
  exact ⟨b, off, xs[i], e, hx, lt_of_cell h0, h0, hc i _ hx 1 _ rfl, hc i _ hx 2 _ rfl, hc i _ hx 3 _ rfl, hc i _ hx 4 _ rfl⟩

theorem Rd.jobAt {xs : List J} (h : Rd 3 J.cells w A n c xs) {i : Nat} (hi : i < n) : ∃ b off x, A = some ⟨b, off, none⟩ ∧ xs[i]? = some x ∧ b < w.heap.size ∧
    w.cell? ⟨b, off + i * 3, none⟩ = some (.int .i64 x.task) ∧ w.cell? ⟨b, off + i * 3 + 1, none⟩ = some (.int .i64 x.at_) ∧ w.cell? ⟨b, off + i * 3 + 2, none⟩ = some (.int .i64 x.need) := by
  obtain ⟨b, off, e, hc⟩ := h.cells (by omega)
  have hl : i < xs.length := by rw [h.len]; exact hi
  have hx : xs[i]? = some xs[i] := List.getElem?_eq_getElem hl
  have h0 := hc i _ hx 0 _ rfl
  exact ⟨b, off, xs[i], e, hx, lt_of_cell h0, h0, hc i _ hx 1 _ rfl, hc i _ hx 2 _ rfl⟩

theorem Rd.intAt {xs : List Int} (h : Rd 1 icells w A n c xs) {i : Nat} (hi : i < n) : ∃ b off x, A = some ⟨b, off, none⟩ ∧ xs[i]? = some x ∧ b < w.heap.size ∧
    w.cell? ⟨b, off + i, none⟩ = some (.int .i64 x) := by
  obtain ⟨b, off, e, hc⟩ := h.cells (by omega)
  have hl : i < xs.length := by rw [h.len]; exact hi
  have hx : xs[i]? = some xs[i] := List.getElem?_eq_getElem hl
  have h0 := hc i _ hx 0 _ rfl
  rw [Nat.mul_one, Nat.add_zero] at h0
  exact ⟨b, off, xs[i], e, hx, lt_of_cell h0, h0⟩
end

theorem below_of_regrown {w w' : World} (h : ∃ p : Regrown, w' = Go.Sort.grow (redrawn w p.d) p.os) : Below w.heap.size w w' := by
  obtain ⟨p, rfl⟩ := h
  exact below_regrown w p.d p.os
theorem Rd.regrown {α : Type} {k : Nat} {enc : α → List Value} {w : World} {A : Option Addr} {n c : Nat} {xs : List α} (h : Rd k enc w A n c xs) (d : Nat) (os : Array Obj) : Rd k enc (Go.Sort.grow (redrawn w d) os) A n c xs := h.below (below_regrown w d os)
theorem cell_new_regrown (w : World) (cs : Array Value) (t : TypeId) (i : Nat) (v : Value) (h : cs[i]? = some v) (d : Nat) (os : Array Obj) : (Go.Sort.grow (redrawn (w.alloc (.cells cs t)) d) os).cell? ⟨w.heap.size, i, none⟩ = some v :=
  cell_regrown (by rw [World.cell?_alloc_at _ _ _ _ rfl]; exact h) d os

theorem ret_int {k : IntKind} {a b : Int} (h : a = b) : Ending.returned (.int k a) = .returned (.int k b) := by rw [h]
theorem ret_bool {a b : Bool} (h : a = b) : Ending.returned (.bool a) = .returned (.bool b) := by rw [h]

theorem ret_int_bool {k : IntKind} {a b : Int} {c d : Bool} (h : a = b) (h' : c = d) : Ending.returned (.tuple #[.int k a, .bool c]) = .returned (.tuple #[.int k b, .bool d]) := by rw [h, h']
theorem take_succ_of {α : Type} {xs : List α} {k : Nat} {x : α} (h : xs[k]? = some x) : xs.take (k + 1) = xs.take k ++ [x] := by
  rw [List.take_add_one, h]; rfl

end Go.Proofs.Ytbfdpegjflhboaa
