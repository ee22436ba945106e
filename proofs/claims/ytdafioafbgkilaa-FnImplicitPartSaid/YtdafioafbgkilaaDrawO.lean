/- The contracts of the drawing of orders: l4Draw, DrawOrderValid, DrawPutOrder. Conditions: at most 2^20 bytes come in. -/
import Derived.Test.YtdafioafbgkilaaDrawS
namespace Go.Proofs.Ytdafioafbgkilaa
open Go.RowKit
set_option linter.unusedVariables false

theorem infoIntD : (Try.prog.info? 3).map (fun i => (i.zero, i.size, i.bytes)) = some (some (.int .i64 0), 1, 8) := by kernel_rfl

/-- an owned list of numbers, in new memory -/
def OwnI (w wc : World) (v : Value) (m : Nat) (xs : List Int) : Prop := wc.ownsRow w.heap.size 3 1 v m (xs.flatMap icells) ∧ xs.length = m
theorem OwnI.grown {w w1 w2 : World} {v : Value} {m : Nat} {xs : List Int} {R : Nat} (h : OwnI w w1 v m xs) (hR : R < w.heap.size) (hg : w1.grownBy w2 (some R)) : OwnI w w2 v m xs :=
  ⟨h.1.kept hg (by
    cases hv : v.ownBlock with
    | none => exact Or.inl rfl
    | some g => right; intro e; injection e with e; have := h.1.lt g hv; omega), h.2⟩
theorem OwnI.alloc {w w1 : World} {v : Value} {m : Nat} {xs : List Int} (h : OwnI w w1 v m xs) (o : Obj) : OwnI w (w1.alloc o) v m xs := ⟨h.1.alloc o, h.2⟩
theorem OwnI.new (w : World) : OwnI w (w.alloc (.cells #[] 3)) (.slice (some ⟨w.heap.size, 0, none⟩) 0 0) 0 [] :=
  ⟨World.ownsRow_lit (size := 1) (e := 3) (base := w.heap.size) w #[] 0 (Nat.le_refl _) (Nat.zero_le _) rfl, rfl⟩
theorem OwnI.form {w w1 : World} {v : Value} {m : Nat} {xs : List Int} (h : OwnI w w1 v m xs) : (v = .slice none 0 0 ∧ m = 0) ∨ ∃ g c, v = .slice (some ⟨g, 0, none⟩) m c ∧ w.heap.size ≤ g := by
  rcases h.1.2 with ⟨hv, h0⟩ | ⟨g, cap, cur, hv, hb, _⟩
  · exact Or.inl ⟨hv, h0⟩
  · exact Or.inr ⟨g, cap, hv, hb⟩
theorem OwnI.slice {w w1 : World} {v : Value} {m : Nat} {xs : List Int} (h : OwnI w w1 v m xs) : ∃ A c, v = .slice A m c := by
  rcases h.form with ⟨rfl, rfl⟩ | ⟨g, c, rfl, _⟩
  · exact ⟨_, _, rfl⟩
  · exact ⟨_, _, rfl⟩
theorem icells_set (xs : List Int) (k : Nat) (x : Int) : (xs.flatMap icells).set k (.int .i64 x) = (xs.set k x).flatMap icells := by
  induction xs generalizing k with
  | nil => simp
  | cons y ys ih =>
    cases k with
    | zero => simp [icells]
    | succ k => rw [List.set_cons_succ, List.flatMap_cons, List.flatMap_cons, ← ih k]; rfl
theorem OwnI.set_ {w w1 : World} {g c m : Nat} {xs : List Int} (h : OwnI w w1 (.slice (some ⟨g, 0, none⟩) m c) m xs) (k : Nat) (x : Int) :
    OwnI w (w1.setCell ⟨g, k, none⟩ (.int .i64 x)) (.slice (some ⟨g, 0, none⟩) m c) m (xs.set k x) :=
  ⟨by rw [← icells_set]; exact (h.1.stored k _).1, by rw [List.length_set]; exact h.2⟩
theorem OwnI.at_ {w w1 : World} {g c m : Nat} {xs : List Int} (h : OwnI w w1 (.slice (some ⟨g, 0, none⟩) m c) m xs) {k : Nat} (hk : k < m) : ∃ x, w1.cell? ⟨g, k, none⟩ = some (.int .i64 x) := by
  obtain ⟨b, off, x, e, _, _, hc⟩ := (Rd.of_own icells_len h.1 h.2).intAt hk
  injection e with e; injection e with e1 e2
  subst e1 e2
  rw [Nat.zero_add] at hc
  exact ⟨x, hc⟩
theorem cell_one (w : World) (x : Int) (ty : TypeId) (g : Nat) (hg : g = w.heap.size) : ∀ j u, (icells x)[j]? = some u → (w.alloc (.cells #[.int .i64 x] ty)).cell? ((⟨g, 0, none⟩ : Addr).add j) = some u := by
  subst hg
  intro j u hu
  rw [Addr.add_lit, Nat.zero_add, World.cell?_alloc_at _ _ _ _ rfl]
  simpa [icells] using hu
theorem icells_oneCell (x : Int) : ∀ u ∈ icells x, u.oneCell' = true := by
  intro u hu
  simp only [icells, List.mem_singleton] at hu
  subst hu; rfl


end Go.Proofs.Ytdafioafbgkilaa
