/- The contracts of the drawing of tasks: l1Task, l1Wrong. Conditions: fewer than 999990 bytes have been picked before. -/
import Derived.Test.YtbfdpegjflhboaaPick
namespace Go.Proofs.Ytbfdpegjflhboaa
open Go.RowKit
set_option linter.unusedVariables false

/-- block g holds just these cells, none frozen -/
def Blk (w : World) (g : Nat) (t : TypeId) (cs : Array Value) : Prop := w.heap[g]? = some (.cells cs t (0, 0))
section
variable {w w' : World} {g : Nat} {t : TypeId} {cs : Array Value}
theorem Blk.lt (h : Blk w g t cs) : g < w.heap.size := (Array.getElem?_eq_some_iff.1 h).1
theorem Blk.cell (h : Blk w g t cs) {i : Nat} {v : Value} (hi : cs[i]? = some v) : w.cell? ⟨g, i, none⟩ = some v := (cell_of_row w g i cs t (0, 0) h).trans hi
theorem Blk.frozen (h : Blk w g t cs) (i : Nat) : w.frozen? ⟨g, i, none⟩ = false := frozen_of_row w g i cs t h
theorem Blk.new (w : World) (t : TypeId) (cs : Array Value) : Blk (w.alloc (.cells cs t)) w.heap.size t cs := heap_alloc_new w _
theorem Blk.alloc (h : Blk w g t cs) (o : Obj) : Blk (w.alloc o) g t cs := (Below.heap_alloc w o g h.lt).trans h
theorem Blk.drewN (h : Blk w g t cs) (k : Nat) : Blk (w.drewN k) g t cs := h
theorem Blk.set_ (h : Blk w g t cs) (i : Nat) (u : Value) : Blk (w.setCell ⟨g, i, none⟩ u) g t (cs.setIfInBounds i u) := heap_setCell_same w g i cs t u h
theorem Blk.far (h : Blk w g t cs) {p : Addr} (hp : g ≠ p.block) (u : Value) : Blk (w.setCell p u) g t cs := (heap_setCell_other w p g u hp).trans h
theorem Blk.grown (h : Blk w g t cs) {row : Option Nat} (hg : w.grownBy w' row) (hne : some g ≠ row) : Blk w' g t cs := (hg.block g h.lt hne).trans h
theorem Blk.below (h : Blk w g t cs) (hb : Below w.heap.size w w') : Blk w' g t cs := (hb.block g h.lt).trans h
end
theorem grown_trans {a b c : World} {row : Option Nat} (h : a.grownBy b row) (k : b.grownBy c row) : a.grownBy c row :=
  ⟨k.os.trans h.os, k.tape.trans h.tape, k.output.trans h.output, Nat.le_trans h.size k.size, fun i hi hne => (k.block i (Nat.lt_of_lt_of_le hi h.size) hne).trans (h.block i hi hne)⟩
theorem grown_alloc {a w : World} {row : Option Nat} (h : a.grownBy w row) (o : Obj) : a.grownBy (w.alloc o) row := grown_trans h (World.grownBy_alloc w o row)
theorem grown_refl (w : World) (row : Option Nat) : w.grownBy w row := ⟨rfl, rfl, rfl, Nat.le_refl _, fun _ _ _ => rfl⟩
theorem grown_new {a w : World} {row : Option Nat} (h : a.grownBy w row) {p : Addr} (hp : a.heap.size ≤ p.block) (u : Value) : a.grownBy (w.setCell p u) row :=
  ⟨h.os, h.tape, h.output, by simpa [World.setCell] using h.size, fun i hi hne => (heap_setCell_other w p i u (by omega)).trans (h.block i hi hne)⟩
theorem grown_drew {a w : World} {row : Option Nat} (h : a.grownBy w row) : a.grownBy w.drew row := ⟨h.os, h.tape, h.output, h.size, h.block⟩
/-- a reader is kept where the store goes elsewhere -/
theorem Rdr.far {w : World} {R : Nat} {A : Option Addr} {n c : Nat} {bs : List UInt8} {p : Nat} (h : Rdr w R A n c bs p) {q : Addr} (hq : q.block ≠ R) (hb : ∀ b off, A = some ⟨b, off, none⟩ → 0 < n → q.block ≠ b) (u : Value) : Rdr (w.setCell q u) R A n c bs p := by
  refine ⟨(World.cell?_setCell_other _ _ _ _ (fun e => hq (by rw [e]))).trans h.r0, (World.cell?_setCell_other _ _ _ _ (fun e => hq (by rw [e]))).trans h.r1, by rw [World.frozen?_setCell]; exact h.fz, ⟨h.by_.len, h.by_.cap, h.by_.max, fun h0 => ?_⟩, h.small, h.apart⟩
  obtain ⟨b, off, e, hc⟩ := h.by_.cells h0
  exact ⟨b, off, e, fun i x hx j u' hu => (World.cell?_setCell_other _ _ _ _ (fun e' => hb b off e h0 (by rw [e']))).trans (hc i x hx j u' hu)⟩

/-- The reader in the middle of a call that began in w with p picks: at most k picks more; nothing else that was there has turned. -/
def Drawn (w : World) (R : Nat) (A : Option Addr) (n c : Nat) (bs : List UInt8) (p k : Nat) (w' : World) : Prop :=
  (∃ q, p ≤ q ∧ q ≤ p + k ∧ Rdr w' R A n c bs q) ∧ w.grownBy w' (some R) ∧ (∀ b off, A = some ⟨b, off, none⟩ → 0 < n → b < w.heap.size) ∧ R < w.heap.size

section
variable {w w1 w2 : World} {R : Nat} {A : Option Addr} {n c : Nat} {bs : List UInt8} {p k : Nat}
theorem Drawn.refl (h : Rdr w R A n c bs p) : Drawn w R A n c bs p 0 w :=
  ⟨⟨p, Nat.le_refl _, Nat.le_refl _, h⟩, grown_refl _ _, fun b off e h0 => by
    obtain ⟨b', off', e', hc⟩ := h.by_.cells h0
    rw [e] at e'; injection e' with e'; injection e' with e1
    have hl : 0 < bs.length := by rw [h.by_.len]; exact h0
    have := lt_of_cell (hc 0 _ (List.getElem?_eq_getElem hl) 0 _ rfl)
    omega, h.lt⟩
theorem Drawn.alloc (h : Drawn w R A n c bs p k w1) (o : Obj) : Drawn w R A n c bs p k (w1.alloc o) := by
  obtain ⟨⟨q, h1, h2, hr⟩, hg, hb, hR⟩ := h
  exact ⟨⟨q, h1, h2, hr.below ((Below.refl _ _).alloc (Nat.le_refl _) _)⟩, grown_alloc hg o, hb, hR⟩
theorem Drawn.drew (h : Drawn w R A n c bs p k w1) : Drawn w R A n c bs p k w1.drew := by
  obtain ⟨⟨q, h1, h2, hr⟩, hg, hb, hR⟩ := h
  exact ⟨⟨q, h1, h2, hr.drewN 1⟩, grown_drew hg, hb, hR⟩
theorem Drawn.set_ (h : Drawn w R A n c bs p k w1) {q : Addr} (hq : w.heap.size ≤ q.block) (u : Value) : Drawn w R A n c bs p k (w1.setCell q u) := by
  obtain ⟨⟨i, h1, h2, hr⟩, hg, hb, hR⟩ := h
  exact ⟨⟨i, h1, h2, hr.far (by omega) (fun b off e h0 => by have := hb b off e h0; omega) u⟩, grown_new hg hq u, hb, hR⟩
theorem Drawn.more (h : Drawn w R A n c bs p k w1) {k' : Nat} (hk : k ≤ k') : Drawn w R A n c bs p k' w1 := by
  obtain ⟨⟨i, h1, h2, hr⟩, hg⟩ := h
  exact ⟨⟨i, h1, by omega, hr⟩, hg⟩
theorem Drawn.below (h : Drawn w R A n c bs p k w1) (hb : Below w1.heap.size w1 w2) : Drawn w R A n c bs p k w2 := by
  obtain ⟨⟨q, h1, h2, hr⟩, hg, hbb, hR⟩ := h
  exact ⟨⟨q, h1, h2, hr.below hb⟩, grown_trans hg ⟨hb.os, hb.tape, hb.output, hb.size, fun i hi _ => hb.block i hi⟩, hbb, hR⟩
theorem Drawn.then_ (h : Drawn w R A n c bs p k w1) {q j : Nat} (hq : q ≤ p + k) (hpq : p ≤ q) (h2 : Drawn w1 R A n c bs q j w2) : Drawn w R A n c bs p (k + j) w2 := by
  obtain ⟨_, hg, hb, hR⟩ := h
  obtain ⟨⟨i, h3, h4, hr⟩, hg2, _, _⟩ := h2
  exact ⟨⟨i, by omega, by omega, hr⟩, grown_trans hg hg2, hb, hR⟩
/-- one pick -/
theorem Drawn.pick (h : Drawn w R A n c bs p k w1) (hp : p + k < 1000000) (m : Int) :
    Calls Try.prog 61 #[.pointer (some ⟨R, 0, none⟩), .int .i64 m] w1 fun e w' => ∃ q, e = .returned (.int .i64 q) ∧ Picked m q ∧ Drawn w R A n c bs p (k + 1) w' ∧ w1.grownBy w' (some R) := by
  obtain ⟨⟨q, h1, h2, hr⟩, hg, hb, hR⟩ := h
  refine (pick_any R A n c bs q m w1 hr (by omega)).mono ?_
  rintro e w' ⟨v, rfl, hv, hr', hg'⟩
  exact ⟨v, rfl, hv, ⟨⟨q + 1, by omega, by omega, hr'⟩, grown_trans hg hg', hb, hR⟩, hg'⟩
/-- one number out of a list that the call has laid -/
theorem Drawn.num (h : Drawn w R A n c bs p k w1) (hp : p + k < 1000000) {g m d : Nat} {xs : List Int} (hx : RdI w1 (some ⟨g, 0, none⟩) m d xs) (hm0 : 0 < m) (hm : m < 1000) (hgw : w.heap.size ≤ g) :
    Calls Try.prog 60 #[.pointer (some ⟨R, 0, none⟩), .slice (some ⟨g, 0, none⟩) m d] w1 fun e w' => ∃ q, e = .returned (.int .i64 q) ∧ q ∈ xs ∧ Drawn w R A n c bs p (k + 1) w' ∧ w1.grownBy w' (some R) := by
  obtain ⟨⟨q, h1, h2, hr⟩, hg, hb, hR⟩ := h
  refine (num_any R A n c bs q _ m d xs w1 hr (by omega) hx hm0 hm (fun b off e => ?_)).mono ?_
  · injection e with e; injection e with e1; omega
  rintro e w' ⟨v, rfl, hv, hr', hg'⟩
  exact ⟨v, rfl, hv, ⟨⟨q + 1, by omega, by omega, hr'⟩, grown_trans hg hg', hb, hR⟩, hg'⟩
end

/-- a list of numbers that has just been laid -/
theorem rdI_new (w : World) (t : TypeId) (cs : Array Value) (g : Nat) (xs : List Int) (hc : cs = (xs.map (Value.int .i64)).toArray) (hg : g = w.heap.size) (m : Nat) (hx : xs.length = m) (hm : m ≤ maxLen) : RdI (w.alloc (.cells cs t)) (some ⟨g, 0, none⟩) m m xs := by
  subst hc hg
  refine ⟨hx, Nat.le_refl _, hm, fun _ => ⟨_, _, rfl, fun i x hx j u hu => ?_⟩⟩
  have hj : j = 0 := by have : j < 1 := (List.getElem?_eq_some_iff.1 hu).1; omega
  subst hj
  rw [World.cell?_alloc_at _ _ _ _ rfl]
  simp only [Nat.zero_add, Nat.mul_one, Nat.add_zero, List.getElem?_toArray, List.getElem?_map, hx, Option.map_some]
  simpa [icells] using hu

end Go.Proofs.Ytbfdpegjflhboaa
