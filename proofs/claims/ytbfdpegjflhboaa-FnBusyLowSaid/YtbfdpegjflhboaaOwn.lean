/- Words for slices that a call made itself: owned rows of tasks, jobs and numbers, and how they read as lists. No condition; plain lemmas. -/
import Derived.Test.YtbfdpegjflhboaaBase
namespace Go.Proofs.Ytbfdpegjflhboaa
open Go.RowKit
set_option linter.unusedVariables false

theorem T.cells_len (x : T) : x.cells.length = 5 := rfl
theorem J.cells_len (x : J) : x.cells.length = 3 := rfl
theorem icells_len (x : Int) : (icells x).length = 1 := rfl

section
variable {α : Type} {k : Nat} {enc : α → List Value}

theorem flatMap_len (hk : ∀ x, (enc x).length = k) (xs : List α) : (xs.flatMap enc).length = xs.length * k := by
  induction xs with
  | nil => simp
  | cons x xs ih => rw [List.flatMap_cons, List.length_append, ih, hk, List.length_cons, Nat.add_mul, Nat.one_mul, Nat.add_comm]

theorem flatMap_get (hk : ∀ x, (enc x).length = k) {xs : List α} {i : Nat} {x : α} {j : Nat} {u : Value} (hx : xs[i]? = some x) (hu : (enc x)[j]? = some u) : (xs.flatMap enc)[i * k + j]? = some u := by
  induction xs generalizing i with
  | nil => simp at hx
  | cons y xs ih =>
    rw [List.flatMap_cons]
    cases i with
    | zero =>
      simp at hx; subst hx
      have hj : j < (enc y).length := (List.getElem?_eq_some_iff.1 hu).1
      rw [Nat.zero_mul, Nat.zero_add, List.getElem?_append_left hj]
      exact hu
    | succ i =>
      simp at hx
      rw [List.getElem?_append_right (by rw [hk, Nat.add_mul]; omega), hk]
      have : (i + 1) * k + j - k = i * k + j := by rw [Nat.add_mul]; omega
      rw [this]
      exact ih hx

theorem flatMap_take (hk : ∀ x, (enc x).length = k) (xs : List α) (m : Nat) : (xs.flatMap enc).take (m * k) = (xs.take m).flatMap enc := by
  induction xs generalizing m with
  | nil => simp
  | cons y xs ih =>
    cases m with
    | zero => simp
    | succ m =>
      rw [List.flatMap_cons, List.take_succ_cons, List.flatMap_cons, Nat.add_mul, Nat.one_mul, List.take_append, hk]
      have h1 : List.take (m * k + k) (enc y) = enc y := List.take_of_length_le (by rw [hk]; omega)
      have h2 : m * k + k - k = m * k := by omega
      rw [h1, h2, ih]

variable {w w' : World} {base : Nat} {e : TypeId} {A : Option Addr} {n c : Nat} {xs : List α}

theorem Rd.of_own (hk : ∀ x, (enc x).length = k) (h : w.ownsRow base e k (.slice A n c) n (xs.flatMap enc)) (hl : xs.length = n) : Rd k enc w A n c xs := by
  rcases h.2 with ⟨hv, h0⟩ | ⟨g, cap, cur, hv, hb, hg, hnc, hcm, hcs, ht⟩
  · injection hv with h1 h2 h3
    subst h0; subst h3
    exact ⟨hl, Nat.le_refl _, Nat.zero_le _, fun h => absurd h (by omega)⟩
  · injection hv with h1 h2 h3
    subst h1; subst h3
    refine ⟨hl, hnc, hcm, fun _ => ⟨g, 0, rfl, fun i x hx j u hu => ?_⟩⟩
    have h1 := flatMap_get hk hx hu
    have := h.cells (g := g) rfl _ u h1
    rw [Addr.add_lit] at this
    rw [Nat.zero_add] at this ⊢
    exact this
end

/-- rows are kept where only new blocks and one other block have turned -/
theorem own_below {w w' : World} {base : Nat} {e : TypeId} {k : Nat} {v : Value} {n : Nat} {xs : List Value} (h : w.ownsRow base e k v n xs) (hb : Below w.heap.size w w') : w'.ownsRow base e k v n xs := by
  refine h.kept (row := none) ⟨hb.os, hb.tape, hb.output, hb.size, fun i hi _ => hb.block i hi⟩ ?_
  cases hv : v.ownBlock <;> simp

/-- five cells stored at element i of an owned row -/
theorem own_store5 {w : World} {base g c n : Nat} {e : TypeId} {L : List Value} (h : w.ownsRow base e 5 (.slice (some ⟨g, 0, none⟩) n c) n L) (i : Nat) (v0 v1 v2 v3 v4 : Value) :
    (((((w.setCell ⟨g, i * 5, none⟩ v0).setCell ⟨g, i * 5 + 1, none⟩ v1).setCell ⟨g, i * 5 + 2, none⟩ v2).setCell ⟨g, i * 5 + 3, none⟩ v3).setCell ⟨g, i * 5 + 4, none⟩ v4).ownsRow base e 5 (.slice (some ⟨g, 0, none⟩) n c) n
      (((((L.set (i * 5) v0).set (i * 5 + 1) v1).set (i * 5 + 2) v2).set (i * 5 + 3) v3).set (i * 5 + 4) v4) :=
  (((((h.stored _ _).1.stored _ _).1.stored _ _).1.stored _ _).1.stored _ _).1

theorem own_store3 {w : World} {base g c n : Nat} {e : TypeId} {L : List Value} (h : w.ownsRow base e 3 (.slice (some ⟨g, 0, none⟩) n c) n L) (i : Nat) (v0 v1 v2 : Value) :
    (((w.setCell ⟨g, i * 3, none⟩ v0).setCell ⟨g, i * 3 + 1, none⟩ v1).setCell ⟨g, i * 3 + 2, none⟩ v2).ownsRow base e 3 (.slice (some ⟨g, 0, none⟩) n c) n
      (((L.set (i * 3) v0).set (i * 3 + 1) v1).set (i * 3 + 2) v2) :=
  (((h.stored _ _).1.stored _ _).1.stored _ _).1

theorem take_set5 (L P : List Value) (p : Nat) (a b c d e : Value) (hp : P.length = p) (hL : p + 5 ≤ L.length) (h : L.take p = P) :
    (((((L.set p a).set (p + 1) b).set (p + 2) c).set (p + 3) d).set (p + 4) e).take (p + 5) = P ++ [a, b, c, d, e] := by
  obtain ⟨M, hM⟩ : ∃ M, L = P ++ M := ⟨L.drop p, by rw [← h, List.take_append_drop]⟩
  subst hM
  match M, (by rw [List.length_append] at hL; omega : 5 ≤ M.length) with
  | m0 :: m1 :: m2 :: m3 :: m4 :: R, _ =>
    subst hp
    simp [List.set_append_right, List.take_append]
    exact List.take_of_length_le (by omega)

theorem take_set3 (L P : List Value) (p : Nat) (a b c : Value) (hp : P.length = p) (hL : p + 3 ≤ L.length) (h : L.take p = P) :
    (((L.set p a).set (p + 1) b).set (p + 2) c).take (p + 3) = P ++ [a, b, c] := by
  obtain ⟨M, hM⟩ : ∃ M, L = P ++ M := ⟨L.drop p, by rw [← h, List.take_append_drop]⟩
  subst hM
  match M, (by rw [List.length_append] at hL; omega : 3 ≤ M.length) with
  | m0 :: m1 :: m2 :: R, _ =>
    subst hp
    simp [List.set_append_right, List.take_append]
    exact List.take_of_length_le (by omega)

theorem take_set1 (L P : List Value) (p : Nat) (a : Value) (hp : P.length = p) (hL : p + 1 ≤ L.length) (h : L.take p = P) :
    (L.set p a).take (p + 1) = P ++ [a] := by
  obtain ⟨M, hM⟩ : ∃ M, L = P ++ M := ⟨L.drop p, by rw [← h, List.take_append_drop]⟩
  subst hM
  match M, (by rw [List.length_append] at hL; omega : 1 ≤ M.length) with
  | m0 :: R, _ =>
    subst hp
    simp [List.set_append_right, List.take_append]
    exact List.take_of_length_le (by omega)

/-- the cells of an owned row: each is there, and none is frozen -/
theorem own_cell {w : World} {base g c n k : Nat} {e : TypeId} {L : List Value} (h : w.ownsRow base e k (.slice (some ⟨g, 0, none⟩) n c) n L) {j : Nat} (hj : j < n * k) : ∃ u, w.cell? ⟨g, j, none⟩ = some u := by
  have h1 := h.cellAt j hj
  have hl : j < L.length := by rw [h.1]; exact hj
  exact ⟨L[j], by rw [h1, List.getElem?_eq_getElem hl]⟩

theorem own_lt {w : World} {base g c n k : Nat} {e : TypeId} {L : List Value} (h : w.ownsRow base e k (.slice (some ⟨g, 0, none⟩) n c) n L) : base ≤ g ∧ g < w.heap.size := h.lt g rfl

end Go.Proofs.Ytbfdpegjflhboaa
