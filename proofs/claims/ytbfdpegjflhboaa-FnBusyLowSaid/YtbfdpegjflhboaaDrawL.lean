/- The contracts of the drawing of lists of tasks: l1Set, l1Some. Conditions: fewer than 999000 bytes have been picked before. -/
import Derived.Test.YtbfdpegjflhboaaDrawT2
namespace Go.Proofs.Ytbfdpegjflhboaa
open Go.RowKit
set_option linter.unusedVariables false

theorem infoTaskD : (Try.prog.info? 30).map (fun i => (i.zero, i.size, i.bytes)) = some (some (.agg #[.int .i64 0, .int .i64 0, .int .i64 0, .int .i64 0, .bool false]), 5, 40) := by kernel_rfl

/-- an owned list of tasks, in new memory -/
def OwnT (w wc : World) (v : Value) (m : Nat) (xs : List T) : Prop := wc.ownsRow w.heap.size 30 5 v m (xs.flatMap T.cells) ∧ xs.length = m

theorem OwnT.grown {w w1 w2 : World} {v : Value} {m : Nat} {xs : List T} {R : Nat} (h : OwnT w w1 v m xs) (hR : R < w.heap.size) (hg : w1.grownBy w2 (some R)) : OwnT w w2 v m xs :=
  ⟨h.1.kept hg (by
    cases hv : v.ownBlock with
    | none => exact Or.inl rfl
    | some g => right; intro e; injection e with e; have := h.1.lt g hv; omega), h.2⟩
theorem OwnT.alloc {w w1 : World} {v : Value} {m : Nat} {xs : List T} (h : OwnT w w1 v m xs) (o : Obj) : OwnT w (w1.alloc o) v m xs := ⟨h.1.alloc o, h.2⟩

theorem OwnT.new (w : World) : OwnT w (w.alloc (.cells #[] 30)) (.slice (some ⟨w.heap.size, 0, none⟩) 0 0) 0 [] :=
  ⟨World.ownsRow_lit (size := 5) (e := 30) (base := w.heap.size) w #[] 0 (Nat.le_refl _) (Nat.zero_le _) rfl, rfl⟩

theorem Drawn.task {w w1 : World} {R : Nat} {A : Option Addr} {n c : Nat} {bs : List UInt8} {p k : Nat} (h : Drawn w R A n c bs p k w1) (hp : p + k < 999990) :
    Calls Try.prog 69 #[.pointer (some ⟨R, 0, none⟩)] w1 fun e w' => ∃ t : T, e = .returned (.agg #[.int .i64 t.low, .int .i64 t.high, .int .i64 t.due, .int .i64 t.every, .bool t.crit]) ∧ Drawn w R A n c bs p (k + 6) w' ∧ w1.grownBy w' (some R) := by
  obtain ⟨q, h1, h2, hr⟩ := h.1
  refine (l1Task_any R A n c bs q w1 hr (by omega)).mono ?_
  rintro e w' ⟨t, rfl, hd⟩
  exact ⟨t, rfl, h.then_ h2 h1 hd, hd.2.1⟩
theorem Drawn.wrong {w w1 : World} {R : Nat} {A : Option Addr} {n c : Nat} {bs : List UInt8} {p k : Nat} (h : Drawn w R A n c bs p k w1) (hp : p + k < 999990) (t : T) :
    Calls Try.prog 68 #[.pointer (some ⟨R, 0, none⟩), .agg #[.int .i64 t.low, .int .i64 t.high, .int .i64 t.due, .int .i64 t.every, .bool t.crit]] w1 fun e w' => ∃ t' : T, e = .returned (.agg #[.int .i64 t'.low, .int .i64 t'.high, .int .i64 t'.due, .int .i64 t'.every, .bool t'.crit]) ∧ Drawn w R A n c bs p (k + 2) w' ∧ w1.grownBy w' (some R) := by
  obtain ⟨q, h1, h2, hr⟩ := h.1
  refine (l1Wrong_any R A n c bs q t w1 hr (by omega)).mono ?_
  rintro e w' ⟨t, rfl, hd⟩
  exact ⟨t, rfl, h.then_ h2 h1 hd, hd.2.1⟩
theorem Drawn.own {w w1 w2 : World} {R : Nat} {A : Option Addr} {n c : Nat} {bs : List UInt8} {p k : Nat} (h : Drawn w R A n c bs p k w1) {row : Option Nat} (hg : w1.grownBy w2 row) (hr : ∀ g, row = some g → w.heap.size ≤ g) : Drawn w R A n c bs p k w2 := by
  obtain ⟨⟨q, h1, h2, hr1⟩, hg1, hb, hR⟩ := h
  have hRr : some R ≠ row := fun e => by have := hr R e.symm; omega
  have hsz := hg1.size
  refine ⟨⟨q, h1, h2, ⟨hg.cell hr1.r0 hRr, hg.cell hr1.r1 hRr, ?_, ⟨hr1.by_.len, hr1.by_.cap, hr1.by_.max, fun h0 => ?_⟩, hr1.small, hr1.apart⟩⟩, ?_, hb, hR⟩
  · rw [World.frozen?_of_block (hg.block R (by omega) hRr)]; exact hr1.fz
  · obtain ⟨b, off, e, hc⟩ := hr1.by_.cells h0
    exact ⟨b, off, e, fun i x hx j u hu => hg.cell (hc i x hx j u hu) (fun e' => by have := hr b e'.symm; have := hb b off e h0; omega)⟩
  · exact ⟨hg.os.trans hg1.os, hg.tape.trans hg1.tape, hg.output.trans hg1.output, Nat.le_trans hg1.size hg.size, fun i hi hne => (hg.block i (by omega) (fun e => by have := hr i e.symm; omega)).trans (hg1.block i hi hne)⟩

/-- the cells of one task in a new block -/
theorem cells_one (w : World) (t : T) (ty : TypeId) (g : Nat) (hg : g = w.heap.size) : ∀ j u, t.cells[j]? = some u → (w.alloc (.cells #[.int .i64 t.low, .int .i64 t.high, .int .i64 t.due, .int .i64 t.every, .bool t.crit] ty)).cell? ((⟨g, 0, none⟩ : Addr).add j) = some u := by
  subst hg
  intro j u hu
  rw [Addr.add_lit, Nat.zero_add, World.cell?_alloc_at _ _ _ _ rfl]
  simpa [T.cells] using hu
theorem cells_oneCell (t : T) : ∀ u ∈ t.cells, u.oneCell' = true := by
  intro u hu
  simp only [T.cells, List.mem_cons, List.not_mem_nil, or_false] at hu
  rcases hu with rfl | rfl | rfl | rfl | rfl <;> rfl

set_option maxRecDepth 100000 in
set_option maxHeartbeats 6400000 in
theorem l1Set_any (R : Nat) (A : Option Addr) (n c : Nat) (bs : List UInt8) (p : Nat) (w : World) (h : Rdr w R A n c bs p) (hp : p < 999900) :
    Calls Try.prog 63 #[.pointer (some ⟨R, 0, none⟩)] w fun e w' => ∃ (v : Value) (xs : List T), e = .returned v ∧ xs.length ≤ 5 ∧ OwnT w w' v xs.length xs ∧ Drawn w R A n c bs p 40 w' := by
  have hR := h.lt
  have n1 := Lib.hid (rdI_new (w.alloc (.cells #[] 30)) 3 #[.int .i64 3, .int .i64 2, .int .i64 4, .int .i64 1, .int .i64 5, .int .i64 0] (w.heap.size + 1) [3, 2, 4, 1, 5, 0] rfl (by simp) 6 rfl (by decide))
  have E0 := Lib.hid (((Drawn.refl h).alloc (.cells #[] 30)).alloc (.cells #[.int .i64 3, .int .i64 2, .int .i64 4, .int .i64 1, .int .i64 5, .int .i64 0] 3))
  have o0 := Lib.hid ((OwnT.new w).alloc (.cells #[.int .i64 3, .int .i64 2, .int .i64 4, .int .i64 1, .int .i64 5, .int .i64 0] 3))
  obtain ⟨i0, hi, hz0, hz1, hz2⟩ := info_parts infoTaskD
  clear h
  go_enter Try.func63, Try.ntmps63
  go_wp2_with fail
  refine (E0.out.num (by omega) n1.out (by decide) (by decide) (by omega)).mono ?_
  rintro e w1 ⟨iv, rfl, hiv, D1, g1⟩
  have o1 := Lib.hid (o0.out.grown hR g1)
  have D1 := Lib.hid D1
  obtain ⟨j0, hj0, hj5⟩ : ∃ j : Nat, iv = j ∧ j ≤ 5 := by
    have : 0 ≤ iv ∧ iv ≤ 5 := by simp at hiv; omega
    exact ⟨iv.toNat, by omega, by omega⟩
  subst hj0
  clear g1 hiv n1 E0 o0
  go_wp2_with fail
  go_loopw [3, 4] (fun v i wr => ∃ (j m : Nat) (xs : List T), i = .int .i64 j ∧ m + j ≤ 5 ∧ OwnT w wr v m xs ∧ Drawn w R A n c bs p (1 + 6 * m) wr) (fun _ i _ => (intOf i).toNat)
  case atStart => exact ⟨j0, 0, [], rfl, by omega, o1.out, D1.out⟩
  case round =>
    obtain ⟨j, m, xs, rfl, hmj, ho, hD⟩ := hrel
    replace ho := Lib.hid ho
    replace hD := Lib.hid hD
    clear o1 D1
    by_cases hj : 0 < j
    · go_wp2_with fail
      refine (hD.out.task (by omega)).mono ?_
      rintro e w2 ⟨t, rfl, D2, g2⟩
      have o2 := Lib.hid (ho.out.grown hR g2)
      replace D2 := Lib.hid (D2.alloc (.cells #[.int .i64 t.low, .int .i64 t.high, .int .i64 t.due, .int .i64 t.every, .bool t.crit] 30))
      have o2a := Lib.hid (o2.out.alloc (.cells #[.int .i64 t.low, .int .i64 t.high, .int .i64 t.due, .int .i64 t.every, .bool t.crit] 30))
      have c1 := Lib.hid (cells_one w2 t 30 w2.heap.size rfl)
      clear g2 ho hD o2
      have hsz := D2.out.2.1.size
      go_wp2_with (at_builtin; refine wpList_append_own _ rfl _ _ 23 rfl w.heap.size 30 i0 _ 5 40 Try.underlying23 hi hz0 hz1 hz2 rfl (by decide) _ _ _ rfl o2a.out.1 ⟨w2.heap.size, 0, none⟩ 1 1 t.cells rfl rfl c1.out (cells_oneCell t) ?c3 ?c4 ?c5 ?_)
      case c3 => unfold maxLen; omega
      case c4 => omega
      case c5 => exact hsz
      intro v' w3 hown3 hg3 _
      have o3 : Hid (OwnT w w3 v' (m + 1) (xs ++ [t])) := ⟨by rw [List.flatMap_append]; exact hown3, by rw [List.length_append, o2a.out.2]; rfl⟩
      have D3 := Lib.hid (D2.out.own hg3 (fun g e => (o2a.out.1.lt g e).1))
      clear hown3 hg3 D2 o2a c1
      go_wp2
      go_roundw
      case rel => exact ⟨j - 1, m + 1, xs ++ [t], by first | go_num | (congr 1; omega), by omega, o3.out, D3.out.more (by omega)⟩
      case measure => simp [intOf]; omega
    · have hj0 : j = 0 := by omega
      subst hj0
      go_wp2
      go_ret
      exact ⟨_, xs, rfl, by rw [ho.out.2]; omega, by rw [ho.out.2]; exact ho.out, hD.out.more (by omega)⟩

theorem OwnT.form {w w1 : World} {v : Value} {m : Nat} {xs : List T} (h : OwnT w w1 v m xs) : (v = .slice none 0 0 ∧ m = 0) ∨ ∃ g c, v = .slice (some ⟨g, 0, none⟩) m c ∧ w.heap.size ≤ g := by
  rcases h.1.2 with ⟨hv, h0⟩ | ⟨g, cap, cur, hv, hb, _⟩
  · exact Or.inl ⟨hv, h0⟩
  · exact Or.inr ⟨g, cap, hv, hb⟩
theorem OwnT.slice {w w1 : World} {v : Value} {m : Nat} {xs : List T} (h : OwnT w w1 v m xs) : ∃ A c, v = .slice A m c := by
  rcases h.form with ⟨rfl, rfl⟩ | ⟨g, c, rfl, _⟩
  · exact ⟨_, _, rfl⟩
  · exact ⟨_, _, rfl⟩
theorem OwnT.set_ {w w1 : World} {g c m : Nat} {xs : List T} (h : OwnT w w1 (.slice (some ⟨g, 0, none⟩) m c) m xs) (k : Nat) (hk : k < m) (t : T) :
    OwnT w (((((w1.setCell ⟨g, k * 5, none⟩ (.int .i64 t.low)).setCell ⟨g, k * 5 + 1, none⟩ (.int .i64 t.high)).setCell ⟨g, k * 5 + 2, none⟩ (.int .i64 t.due)).setCell ⟨g, k * 5 + 3, none⟩ (.int .i64 t.every)).setCell ⟨g, k * 5 + 4, none⟩ (.bool t.crit)) (.slice (some ⟨g, 0, none⟩) m c) m (xs.set k t) := by
  refine ⟨?_, by rw [List.length_set]; exact h.2⟩
  have h1 := own_store5 h.1 k (.int .i64 t.low) (.int .i64 t.high) (.int .i64 t.due) (.int .i64 t.every) (.bool t.crit)
  have e : (((((xs.flatMap T.cells).set (k * 5) (.int .i64 t.low)).set (k * 5 + 1) (.int .i64 t.high)).set (k * 5 + 2) (.int .i64 t.due)).set (k * 5 + 3) (.int .i64 t.every)).set (k * 5 + 4) (.bool t.crit) = (xs.set k t).flatMap T.cells := by
    have hkl : k < xs.length := by rw [h.2]; exact hk
    clear h1 h hk
    induction xs generalizing k with
    | nil => simp at hkl
    | cons y ys ih =>
      cases k with
      | zero => simp [T.cells]
      | succ k =>
        have := ih k (by simpa using hkl)
        rw [List.set_cons_succ, List.flatMap_cons, List.flatMap_cons, ← this]
        rw [show (k + 1) * 5 = k * 5 + 5 by omega, show k * 5 + 5 + 1 = k * 5 + 1 + 5 by omega, show k * 5 + 5 + 2 = k * 5 + 2 + 5 by omega, show k * 5 + 5 + 3 = k * 5 + 3 + 5 by omega, show k * 5 + 5 + 4 = k * 5 + 4 + 5 by omega]
        rfl
  rw [← e]
  exact h1

theorem Drawn.set5 {w w1 : World} {R : Nat} {A : Option Addr} {n c : Nat} {bs : List UInt8} {p k : Nat} (h : Drawn w R A n c bs p k w1) {g : Nat} (hg : w.heap.size ≤ g) (i : Nat) (v0 v1 v2 v3 v4 : Value) :
    Drawn w R A n c bs p k (((((w1.setCell ⟨g, i * 5, none⟩ v0).setCell ⟨g, i * 5 + 1, none⟩ v1).setCell ⟨g, i * 5 + 2, none⟩ v2).setCell ⟨g, i * 5 + 3, none⟩ v3).setCell ⟨g, i * 5 + 4, none⟩ v4) :=
  ((((h.set_ hg v0).set_ hg v1).set_ hg v2).set_ hg v3).set_ hg v4

theorem OwnT.ext {w w' w1 : World} {v : Value} {m : Nat} {xs : List T} (h : OwnT w' w1 v m xs) (hs : w.heap.size ≤ w'.heap.size) : OwnT w w1 v m xs := by
  refine ⟨⟨h.1.1, ?_⟩, h.2⟩
  rcases h.1.2 with h0 | ⟨g, cap, cur, hv, hb, r⟩
  · exact Or.inl h0
  · exact Or.inr ⟨g, cap, cur, hv, Nat.le_trans hs hb, r⟩

theorem Drawn.set0 {w w1 : World} {R : Nat} {A : Option Addr} {n c : Nat} {bs : List UInt8} {p k : Nat} (h : Drawn w R A n c bs p k w1) (hp : p + k < 999900) :
    Calls Try.prog 63 #[.pointer (some ⟨R, 0, none⟩)] w1 fun e w' => ∃ (D : Option Addr) (m d : Nat) (xs : List T), e = .returned (.slice D m d) ∧ m ≤ 5 ∧ OwnT w w' (.slice D m d) m xs ∧ Drawn w R A n c bs p (k + 40) w' := by
  obtain ⟨q, h1, h2, hr⟩ := h.1
  refine (l1Set_any R A n c bs q w1 hr (by omega)).mono ?_
  rintro e w' ⟨v, xs, rfl, hl, ho, hd⟩
  obtain ⟨D, d, rfl⟩ := ho.slice
  exact ⟨D, xs.length, d, xs, rfl, hl, ho.ext h.2.1.size, h.then_ h2 h1 hd⟩

end Go.Proofs.Ytbfdpegjflhboaa
