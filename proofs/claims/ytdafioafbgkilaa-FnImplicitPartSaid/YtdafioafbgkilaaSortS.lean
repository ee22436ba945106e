/- The contracts of l1Before and SortDue, of the reference: some tasks come back, as many at most. No condition. -/
import Derived.Test.YtdafioafbgkilaaDrawL
import Derived.Test.YtdafioafbgkilaaSet
import Derived.Deep.DeepCutAuto
namespace Go.Proofs.Ytdafioafbgkilaa
open Go.RowKit
set_option linter.unusedVariables false

def befB (x y : T) : Bool := if x.due = y.due then decide (x.every < y.every) else decide (x.due < y.due)


theorem OwnT.belowS {w w1 w2 : World} {v : Value} {m : Nat} {xs : List T} (h : OwnT w w1 v m xs) (hb : Below w1.heap.size w1 w2) : OwnT w w2 v m xs := ⟨own_below h.1 hb, h.2⟩
theorem OwnT.rdS {w w1 : World} {A : Option Addr} {c m : Nat} {xs : List T} (h : OwnT w w1 (.slice A m c) m xs) : RdT w1 A m c xs := Rd.of_own T.cells_len h.1 h.2
theorem OwnT.keepS {w w1 w2 : World} {v : Value} {m : Nat} {xs : List T} (h : OwnT w w1 v m xs) {row : Option Nat} (hg : w1.grownBy w2 row) (hne : v.ownBlock ≠ row) : OwnT w w2 v m xs :=
  ⟨h.1.kept hg (Or.inr hne), h.2⟩
theorem rd_cells {w : World} {A : Option Addr} {b off n c : Nat} {xs : List T} (h : RdT w (some ⟨b, off, none⟩) n c xs) (h0 : 0 < n) : ∀ j u, (xs.flatMap T.cells)[j]? = some u → w.cell? ((⟨b, off, none⟩ : Addr).add j) = some u := by
  intro j u hu
  obtain ⟨b', off', e, hc⟩ := h.cells h0
  injection e with e; injection e with e1 e2
  subst e1 e2
  have hj : j < (xs.flatMap T.cells).length := (List.getElem?_eq_some_iff.1 hu).1
  rw [flatMap_len T.cells_len] at hj
  have hd : j / 5 < xs.length := Nat.div_lt_of_lt_mul (by omega)
  have hx : xs[j / 5]? = some xs[j / 5] := List.getElem?_eq_getElem hd
  have hm : j % 5 < 5 := Nat.mod_lt _ (by omega)
  have hlen : j % 5 < (xs[j / 5].cells).length := by rw [T.cells_len]; exact hm
  have hu2 := flatMap_get T.cells_len hx (List.getElem?_eq_getElem hlen)
  have e : j / 5 * 5 + j % 5 = j := by omega
  rw [e] at hu2
  rw [hu2] at hu
  have := hc (j / 5) _ hx (j % 5) _ (List.getElem?_eq_getElem hlen)
  rw [Nat.add_assoc, e] at this
  rw [Addr.add_lit]
  rw [this]; exact hu
theorem rd_take_cells {w : World} {g d m : Nat} {ys : List T} (h : RdT w (some ⟨g, 0, none⟩) m d ys) {a : Nat} (ha : a ≤ m) : ∀ j u, ((ys.take a).flatMap T.cells)[j]? = some u → w.cell? ((⟨g, 0, none⟩ : Addr).add j) = some u := by
  rcases Nat.eq_zero_or_pos a with h0 | h0
  · subst h0; intro j u hu; simp at hu
  · exact rd_cells (A := none) (h.take ha) h0
theorem rd_cells0 {w : World} {b off : Nat} {xs : List T} (h : xs = []) : ∀ j u, (xs.flatMap T.cells)[j]? = some u → w.cell? ((⟨b, off, none⟩ : Addr).add j) = some u := by
  intro j u hu
  subst h
  simp at hu
theorem cells_all_one (xs : List T) : ∀ u ∈ xs.flatMap T.cells, u.oneCell' = true := by
  intro u hu
  obtain ⟨x, _, hx⟩ := List.mem_flatMap.1 hu
  exact cells_oneCell x u hx
theorem Rd.dropS {α : Type} {k : Nat} {enc : α → List Value} {w : World} {b off n c : Nat} {xs : List α} (h : Rd k enc w (some ⟨b, off, none⟩) n c xs) {m : Nat} (hm : m ≤ n) : Rd k enc w (some ⟨b, off + m * k, none⟩) (n - m) (c - m) (xs.drop m) := by
  have hc := h.cap
  have hx := h.max
  refine ⟨by rw [List.length_drop, h.len], by omega, by omega, fun h0 => ?_⟩
  obtain ⟨b', off', e, hcl⟩ := h.cells (by omega)
  injection e with e; injection e with e1 e2
  subst e1 e2
  refine ⟨b, off + m * k, rfl, fun i x hx j u hu => ?_⟩
  rw [List.getElem?_drop] at hx
  have := hcl (m + i) x hx j u hu
  rw [Nat.add_mul, ← Nat.add_assoc off] at this
  exact this
theorem rd_drop_cells {w : World} {g d m : Nat} {ys : List T} (h : RdT w (some ⟨g, 0, none⟩) m d ys) {a : Nat} (ha : a ≤ m) : ∀ j u, ((ys.drop a).flatMap T.cells)[j]? = some u → w.cell? ((⟨g, a * 5, none⟩ : Addr).add j) = some u := by
  by_cases h0 : a = m
  · intro j u hu
    rw [List.drop_eq_nil_of_le (by rw [h.len]; omega)] at hu
    simp at hu
  · have := rd_cells (A := none) (h.dropS ha) (by omega)
    rw [Nat.zero_add] at this
    exact this
theorem own_some {w w1 : World} {v : Value} {m : Nat} {xs : List T} (h : OwnT w w1 v m xs) (hn : v ≠ .slice none 0 0) : ∃ g c, v = .slice (some ⟨g, 0, none⟩) m c ∧ w.heap.size ≤ g := by
  rcases h.form with ⟨e, _⟩ | h
  · exact absurd e hn
  · exact h
theorem below_rowS {w w1 w2 w3 : World} {v : Value} {m : Nat} {L : List Value} {e : TypeId} {k : Nat} (hb : Below w.heap.size w w2) (hw : w.heap.size ≤ w1.heap.size) (ho : w2.ownsRow w1.heap.size e k v m L) (hg : w2.grownBy w3 v.ownBlock) : Below w.heap.size w w3 :=
  hb.grown hg hb.size (fun g e => Nat.le_trans hw (ho.lt g e).1)


end Go.Proofs.Ytdafioafbgkilaa
