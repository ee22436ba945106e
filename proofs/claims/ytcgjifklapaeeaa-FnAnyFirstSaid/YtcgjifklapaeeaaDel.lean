/- The contracts of slices.Clone and slices.Delete of one element, at tasks and at numbers, on rows of the call's own. Condition: the place is in the row. -/
import Derived.Test.YtcgjifklapaeeaaSortS
import Derived.Test.YtcgjifklapaeeaaDrawO
import Derived.Deep.RegionLaw
import Derived.Lib.SliceRun
namespace Go.Proofs.Ytcgjifklapaeeaa
open Go.RowKit
set_option linter.unusedVariables false

/-- cells stored one behind the other into a row -/
theorem own_setCells {base g c n k : Nat} {e : TypeId} : ∀ (vs : List Value) (o : Nat) (w : World) (L : List Value), w.ownsRow base e k (.slice (some ⟨g, 0, none⟩) n c) n L → o + vs.length ≤ L.length →
    (w.setCells g o vs).ownsRow base e k (.slice (some ⟨g, 0, none⟩) n c) n (L.take o ++ vs ++ L.drop (o + vs.length)) := by
  intro vs
  induction vs with
  | nil => intro o w L h hl; simpa [World.setCells] using h
  | cons v r ih =>
    intro o w L h hl
    rw [List.length_cons] at hl
    have h1 := (h.stored o v).1
    have h2 := ih (o + 1) _ _ h1 (by rw [List.length_set]; omega)
    have ho : o < L.length := by omega
    have e0 : L.set o v = L.take o ++ v :: L.drop (o + 1) := by rw [List.set_eq_take_append_cons_drop, if_pos ho]
    have lt : (L.take o).length = o := by rw [List.length_take]; omega
    have e1 : (L.set o v).take (o + 1) = L.take o ++ [v] := by
      rw [e0, List.take_append, List.take_of_length_le (by omega), lt, show o + 1 - o = 1 by omega]
      rfl
    have e2 : (L.set o v).drop (o + 1 + r.length) = L.drop (o + (r.length + 1)) := by
      rw [List.drop_set_of_lt (by omega)]
      congr 1; omega
    rw [e1, e2] at h2
    show ((w.setCell ⟨g, o, none⟩ v).setCells g (o + 1) r).ownsRow _ _ _ _ _ _
    rw [List.length_cons]
    simpa using h2
theorem grown_setCells {g : Nat} : ∀ (vs : List Value) (o : Nat) (a w : World), a.grownBy w (some g) → a.grownBy (w.setCells g o vs) (some g) := by
  intro vs
  induction vs with
  | nil => intro o a w h; exact h
  | cons v r ih =>
    intro o a w h
    refine ih (o + 1) a _ ⟨h.os, h.tape, h.output, by simpa using h.size, fun k hk hne => ?_⟩
    rw [heap_setCell_other _ _ _ _ (by intro e; apply hne; rw [e])]
    exact h.block k hk hne
theorem own_cut {w : World} {base g c n k m : Nat} {e : TypeId} {L : List Value} (h : w.ownsRow base e k (.slice (some ⟨g, 0, none⟩) n c) n L) (hm : m ≤ n) : w.ownsRow base e k (.slice (some ⟨g, 0, none⟩) m c) m (L.take (m * k)) := by
  have hmk : m * k ≤ n * k := Nat.mul_le_mul_right _ hm
  refine ⟨by rw [List.length_take, h.1]; omega, ?_⟩
  rcases h.2 with ⟨hv, _⟩ | ⟨g', cap, cur, hv, hb, hg, hnc, hcm, hcs, ht⟩
  · injection hv with hv; cases hv
  · injection hv with e1 e2 e3
    injection e1 with e1; injection e1 with e1
    subst e1 e3
    exact Or.inr ⟨g, c, cur, rfl, hb, hg, by omega, hcm, hcs, by rw [← ht, List.take_take, Nat.min_eq_left hmk]⟩
theorem own_bounds {w : World} {base g c n k : Nat} {e : TypeId} {L : List Value} (h : w.ownsRow base e k (.slice (some ⟨g, 0, none⟩) n c) n L) : n ≤ c ∧ c ≤ maxLen := by
  rcases h.2 with ⟨hv, _⟩ | ⟨g', cap, cur, hv, hb, hg, hnc, hcm, hcs, ht⟩
  · injection hv with hv; cases hv
  · injection hv with e1 e2 e3
    subst e3
    exact ⟨hnc, hcm⟩
theorem own_drew {w : World} {base n k : Nat} {e : TypeId} {v : Value} {L : List Value} (h : w.ownsRow base e k v n L) : w.drew.ownsRow base e k v n L := h
/-- clearing one element of k cells -/
theorem clear_one {P : Program} (w : World) (t e ty : TypeId) (z : Value) (zs : List Value) (ht : P.underlying t = some (.slice e)) (hv : ∀ w, (zeroValue e).run P w = .ok z w) (hz : (Builtin.zeroCells z.cells 1).toList = zs) (h1 : ∀ v ∈ zs, v.oneCell' = true) (b o c : Nat)
    (hc : ∀ j, j < zs.length → (w.cell? ⟨b, o + j, none⟩).isSome = true) (hf : ∀ j, j < zs.length → w.frozen? ⟨b, o + j, none⟩ = false) :
    (Builtin.clear_ #[t] ty #[.slice (some ⟨b, o, none⟩) 1 c]).run P w = .ok (.tuple #[]) (w.setCells b o zs) := by
  have hst := run_storeCells_cells (P := P) b o zs 0 w (by simpa using hc) (by simpa using hf) h1
  simp only [Nat.add_zero] at hst
  simp [Builtin.clear_, run_underlying ht, hv, hz, hst]
theorem erase_eq {α : Type} (xs : List α) (j : Nat) : xs.eraseIdx j = xs.take j ++ xs.drop (j + 1) := by rw [List.eraseIdx_eq_take_drop_succ]
/-- what the deletion leaves -/
theorem del_cells {α : Type} {k : Nat} {enc : α → List Value} (hk : ∀ x, (enc x).length = k) {xs : List α} {j m : Nat} (hl : xs.length = j + 1 + m) (zs : List Value) (hzs : zs.length = k) :
    (((xs.flatMap enc).take (j * k) ++ (xs.drop (j + 1)).flatMap enc ++ (xs.flatMap enc).drop (j * k + ((xs.drop (j + 1)).flatMap enc).length)).take ((j + m) * k) ++ zs ++
      ((xs.flatMap enc).take (j * k) ++ (xs.drop (j + 1)).flatMap enc ++ (xs.flatMap enc).drop (j * k + ((xs.drop (j + 1)).flatMap enc).length)).drop ((j + m) * k + zs.length)).take ((j + m) * k) = (xs.eraseIdx j).flatMap enc := by
  have h1 : ((xs.drop (j + 1)).flatMap enc).length = m * k := by rw [flatMap_len hk, List.length_drop, hl]; congr 1; omega
  have h2 : ((xs.flatMap enc).take (j * k)).length = j * k := by rw [List.length_take, flatMap_len hk, hl, Nat.min_eq_left (Nat.mul_le_mul_right _ (by omega))]
  have h3 : ((xs.flatMap enc).take (j * k) ++ (xs.drop (j + 1)).flatMap enc).length = (j + m) * k := by rw [List.length_append, h1, h2, Nat.add_mul]
  rw [List.append_assoc, List.take_append_of_le_length (by rw [List.length_take, List.length_append, List.length_append, h1, h2, Nat.add_mul]; omega)]
  rw [List.take_take, Nat.min_self, List.take_append_of_le_length (by rw [h3]; exact Nat.le_refl _), List.take_of_length_le (by rw [h3]; exact Nat.le_refl _), erase_eq, List.flatMap_append, flatMap_take hk]

-- DEL BEGIN
theorem icells_all_one (xs : List Int) : ∀ u ∈ xs.flatMap icells, u.oneCell' = true := by
  intro u hu
  obtain ⟨x, _, hx⟩ := List.mem_flatMap.1 hu
  exact icells_oneCell x u hx

set_option maxRecDepth 100000 in
set_option maxHeartbeats 6400000 in
theorem delete_tasks (u w : World) (g n c j : Nat) (xs : List T) (h : OwnT u w (.slice (some ⟨g, 0, none⟩) n c) n xs) (hj : j < n) (hn : n ≤ 1000) :
    Calls Try.prog 54 #[.slice (some ⟨g, 0, none⟩) n c, .int .i64 j, .int .i64 ((j : Int) + 1)] w fun e w' => e = .returned (.slice (some ⟨g, 0, none⟩) (n - 1) c) ∧ OwnT u w' (.slice (some ⟨g, 0, none⟩) (n - 1) c) (n - 1) (xs.eraseIdx j) ∧ w.grownBy w' (some g) := by
  obtain ⟨inf, hi, iz0, iz1, iz2⟩ := info_parts infoTaskD
  obtain ⟨hnc, hcm⟩ := own_bounds h.1
  unfold maxLen at hcm
  obtain ⟨m, rfl⟩ : ∃ m, n = j + 1 + m := ⟨n - (j + 1), by omega⟩
  rw [show j + 1 + m - 1 = j + m by omega]
  have hl := h.2
  have hrd := Rd.of_own (k := 5) T.cells_len h.1 h.2
  obtain ⟨news, hnews⟩ : ∃ news, (xs.drop (j + 1)).flatMap T.cells = news := ⟨_, rfl⟩
  have hnl : news.length = m * 5 := by rw [← hnews, flatMap_len T.cells_len, List.length_drop, hl]; congr 1; omega
  have s1 := Lib.hid hnl
  have s2 := Lib.hid (show ∀ u ∈ news, u.oneCell' = true by rw [← hnews]; exact cells_all_one _)
  have s3 := Lib.hid (show ∀ t, t < news.length → (w.drew.cell? ⟨g, 0 + j * 5 + t, none⟩).isSome = true ∧ w.drew.frozen? ⟨g, 0 + j * 5 + t, none⟩ = false from fun t ht => by
    rw [hnl] at ht
    obtain ⟨u0, hu⟩ := own_cell h.1 (j := 0 + j * 5 + t) (by omega)
    exact ⟨by show (w.cell? _).isSome = true; rw [hu]; rfl, h.1.frozenAt _⟩)
  obtain ⟨W1, hW1⟩ : ∃ W1, W1 = w.drew.setCells g (0 + j * 5) news := ⟨_, rfl⟩
  have hLL : (xs.flatMap T.cells).length = (j + 1 + m) * 5 := h.1.1
  have o1 : W1.ownsRow u.heap.size 40 5 (.slice (some ⟨g, 0, none⟩) (j + 1 + m) c) (j + 1 + m) ((xs.flatMap T.cells).take (j * 5) ++ news ++ (xs.flatMap T.cells).drop (j * 5 + news.length)) := by
    rw [hW1, Nat.zero_add]
    exact own_setCells news (j * 5) w.drew _ (own_drew h.1) (by rw [hLL, hnl]; omega)
  have g1 : w.grownBy W1 (some g) := by rw [hW1]; exact grown_setCells news _ w w.drew ⟨rfl, rfl, rfl, Nat.le_refl _, fun _ _ _ => rfl⟩
  have hcl : ∀ ty cc, (Builtin.clear_ #[23] ty #[.slice (some ⟨g, (j + m) * 5, none⟩) 1 cc]).run Try.prog W1 = .ok (.tuple #[]) (W1.setCells g ((j + m) * 5) [.int .i64 0, .int .i64 0, .int .i64 0, .int .i64 0, .bool false]) := fun ty cc =>
    clear_one W1 _ 40 ty (.agg #[.int .i64 0, .int .i64 0, .int .i64 0, .int .i64 0, .bool false]) [.int .i64 0, .int .i64 0, .int .i64 0, .int .i64 0, .bool false] Try.underlying23 (fun w => by simp [zeroValue, typeInfo, hi, iz0]) (by kernel_rfl) (by intro v hv; simp at hv; first | (rcases hv with rfl | rfl <;> rfl) | (subst hv; rfl) | (rcases hv with rfl | rfl | rfl | rfl | rfl <;> rfl)) g ((j + m) * 5) _ (fun t ht => by
      obtain ⟨u0, hu⟩ := own_cell o1 (j := (j + m) * 5 + t) (by simp at ht; omega)
      rw [hu]; rfl) (fun t _ => o1.frozenAt _)
  have o2 := own_setCells [.int .i64 0, .int .i64 0, .int .i64 0, .int .i64 0, .bool false] ((j + m) * 5) W1 _ o1 (by rw [o1.1]; simp; omega)
  have g2 := grown_setCells [.int .i64 0, .int .i64 0, .int .i64 0, .int .i64 0, .bool false] ((j + m) * 5) w W1 g1
  have o3 := own_cut o2 (m := j + m) (by omega)
  rw [← hnews] at o3
  rw [del_cells T.cells_len hl [.int .i64 0, .int .i64 0, .int .i64 0, .int .i64 0, .bool false] rfl] at o3
  have O3 := Lib.hid (show OwnT u (W1.setCells g ((j + m) * 5) [.int .i64 0, .int .i64 0, .int .i64 0, .int .i64 0, .bool false]) (.slice (some ⟨g, 0, none⟩) (j + m) c) (j + m) (xs.eraseIdx j) from ⟨o3, by rw [List.length_eraseIdx_of_lt (by omega), hl]; omega⟩)
  have hW := Lib.hid hW1
  have G2 := Lib.hid g2
  have hb1 : ((j : Int) == (j : Int) + 1) = false := by simp; omega
  have i0 : (0 : Int) ≤ (j : Int) := by omega
  have i1 : (j : Int) ≤ (c : Int) := by omega
  have i2 : (j : Int) + 1 ≤ (c : Int) := by omega
  have i3 : j ≤ c := by omega
  have i4 : j + 1 ≤ c := by omega
  have hcn : ¬ c = j + m := by omega
  have hn1 : j + 1 + m - (j + m) = 1 := by omega
  by_cases hc1 : c = j + 1
  · have hm0 : m = 0 := by omega
    subst hm0
    have hn0 : news = [] := List.eq_nil_of_length_eq_zero (by have := hnl; omega)
    subst hn0
    subst hc1
    have s4 := Lib.hid (show ∀ (t : Nat) (u : Value), ([] : List Value)[t]? = some u → w.drew.cell? ((⟨g, 0, none⟩ : Addr).add t) = some u from fun t u hu => by simp at hu)
    clear hW1 o1 g1 o2 g2 o3 hrd h hl hLL hnl hnews
    simp only [Nat.add_zero] at hcl O3 G2 hcn
    have a1 : (j : Int) ≤ (j : Int) + 1 := by omega
    have a2 : (0 : Int) ≤ (j : Int) + 1 := by omega
    go_enter Try.func54, Try.ntmps54
    go_wp2_with fail
    go_region_law (refine step_append_room rfl (.tmp 22) (.tmp 25) 23 rfl 40 inf 5 Try.underlying23 hi iz1 g 0 j (j + 1) (by simp [Act.eval, Act.put]) ⟨g, 0, none⟩ 0 0 [] (by simp [Act.eval, Act.put]) s1.out s4.out s2.out (by omega) s3.out ?_; rw [← hW.out])
    go_wp2
    go_ret
    exact ⟨rfl, O3.out, G2.out⟩
  · have s4 := Lib.hid (show ∀ (t : Nat) (u : Value), news[t]? = some u → w.drew.cell? ((⟨g, (j + 1) * 5, none⟩ : Addr).add t) = some u from fun t u hu => by
      rw [← hnews] at hu
      have h1 : (xs.flatMap T.cells)[(j + 1) * 5 + t]? = some u := by
        have h2 : xs = xs.take (j + 1) ++ xs.drop (j + 1) := (List.take_append_drop _ _).symm
        have h3 : (xs.flatMap T.cells) = (xs.take (j + 1)).flatMap T.cells ++ (xs.drop (j + 1)).flatMap T.cells := by rw [← List.flatMap_append, List.take_append_drop]
        have h4 : ((xs.take (j + 1)).flatMap T.cells).length = (j + 1) * 5 := by rw [flatMap_len T.cells_len, List.length_take, hl]; congr 1; omega
        rw [h3, List.getElem?_append_right (by rw [h4]; omega), h4, Nat.add_sub_cancel_left]
        exact hu
      have h5 := h.1.cells (g := g) rfl _ u h1
      rw [Addr.add_lit] at h5 ⊢
      rw [Nat.zero_add] at h5
      exact h5)
    have hc2 : ¬ j + 1 = c := fun e => hc1 e.symm
    clear hW1 o1 g1 o2 g2 o3 hrd h hl hLL hnl hnews
    have a1 : (j : Int) ≤ (j : Int) + 1 := by omega
    have a2 : (0 : Int) ≤ (j : Int) + 1 := by omega
    have a3 : (j : Int) + 1 ≤ (j : Int) + 1 + (m : Int) := by omega
    have a4 : (j : Int) + 1 + (m : Int) ≤ (c : Int) := by omega
    have a5 : (j : Int) + (m : Int) ≤ (j : Int) + 1 + (m : Int) := by omega
    go_enter Try.func54, Try.ntmps54
    go_wp2_with fail
    go_region_law (refine step_append_room rfl (.tmp 22) (.tmp 25) 23 rfl 40 inf 5 Try.underlying23 hi iz1 g 0 j c (by simp [Act.eval, Act.put]) ⟨g, (j + 1) * 5, none⟩ m (c - (j + 1)) news (by simp [Act.eval, Act.put]) s1.out s4.out s2.out (by omega) s3.out ?_; rw [← hW.out])
    go_wp2
    go_ret
    exact ⟨rfl, O3.out, G2.out⟩

set_option maxRecDepth 100000 in
set_option maxHeartbeats 6400000 in
theorem delete_ints (u w : World) (g n c j : Nat) (xs : List Int) (h : OwnI u w (.slice (some ⟨g, 0, none⟩) n c) n xs) (hj : j < n) (hn : n ≤ 1000) :
    Calls Try.prog 41 #[.slice (some ⟨g, 0, none⟩) n c, .int .i64 j, .int .i64 ((j : Int) + 1)] w fun e w' => e = .returned (.slice (some ⟨g, 0, none⟩) (n - 1) c) ∧ OwnI u w' (.slice (some ⟨g, 0, none⟩) (n - 1) c) (n - 1) (xs.eraseIdx j) ∧ w.grownBy w' (some g) := by
  obtain ⟨inf, hi, iz0, iz1, iz2⟩ := info_parts infoIntD
  obtain ⟨hnc, hcm⟩ := own_bounds h.1
  unfold maxLen at hcm
  obtain ⟨m, rfl⟩ : ∃ m, n = j + 1 + m := ⟨n - (j + 1), by omega⟩
  rw [show j + 1 + m - 1 = j + m by omega]
  have hl := h.2
  have hrd := Rd.of_own (k := 1) icells_len h.1 h.2
  obtain ⟨news, hnews⟩ : ∃ news, (xs.drop (j + 1)).flatMap icells = news := ⟨_, rfl⟩
  have hnl : news.length = m * 1 := by rw [← hnews, flatMap_len icells_len, List.length_drop, hl]; congr 1; omega
  have s1 := Lib.hid hnl
  have s2 := Lib.hid (show ∀ u ∈ news, u.oneCell' = true by rw [← hnews]; exact icells_all_one _)
  have s3 := Lib.hid (show ∀ t, t < news.length → (w.drew.cell? ⟨g, 0 + j * 1 + t, none⟩).isSome = true ∧ w.drew.frozen? ⟨g, 0 + j * 1 + t, none⟩ = false from fun t ht => by
    rw [hnl] at ht
    obtain ⟨u0, hu⟩ := own_cell h.1 (j := 0 + j * 1 + t) (by omega)
    exact ⟨by show (w.cell? _).isSome = true; rw [hu]; rfl, h.1.frozenAt _⟩)
  obtain ⟨W1, hW1⟩ : ∃ W1, W1 = w.drew.setCells g (0 + j * 1) news := ⟨_, rfl⟩
  have hLL : (xs.flatMap icells).length = (j + 1 + m) * 1 := h.1.1
  have o1 : W1.ownsRow u.heap.size 3 1 (.slice (some ⟨g, 0, none⟩) (j + 1 + m) c) (j + 1 + m) ((xs.flatMap icells).take (j * 1) ++ news ++ (xs.flatMap icells).drop (j * 1 + news.length)) := by
    rw [hW1, Nat.zero_add]
    exact own_setCells news (j * 1) w.drew _ (own_drew h.1) (by rw [hLL, hnl]; omega)
  have g1 : w.grownBy W1 (some g) := by rw [hW1]; exact grown_setCells news _ w w.drew ⟨rfl, rfl, rfl, Nat.le_refl _, fun _ _ _ => rfl⟩
  have hcl : ∀ ty cc, (Builtin.clear_ #[26] ty #[.slice (some ⟨g, (j + m) * 1, none⟩) 1 cc]).run Try.prog W1 = .ok (.tuple #[]) (W1.setCells g ((j + m) * 1) [.int .i64 0]) := fun ty cc =>
    clear_one W1 _ 3 ty (.int .i64 0) [.int .i64 0] Try.underlying26 (fun w => by simp [zeroValue, typeInfo, hi, iz0]) (by kernel_rfl) (by intro v hv; simp at hv; first | (rcases hv with rfl | rfl <;> rfl) | (subst hv; rfl) | (rcases hv with rfl | rfl | rfl | rfl | rfl <;> rfl)) g ((j + m) * 1) _ (fun t ht => by
      obtain ⟨u0, hu⟩ := own_cell o1 (j := (j + m) * 1 + t) (by simp at ht; omega)
      rw [hu]; rfl) (fun t _ => o1.frozenAt _)
  have o2 := own_setCells [.int .i64 0] ((j + m) * 1) W1 _ o1 (by rw [o1.1]; simp; omega)
  have g2 := grown_setCells [.int .i64 0] ((j + m) * 1) w W1 g1
  have o3 := own_cut o2 (m := j + m) (by omega)
  rw [← hnews] at o3
  rw [del_cells icells_len hl [.int .i64 0] rfl] at o3
  have O3 := Lib.hid (show OwnI u (W1.setCells g ((j + m) * 1) [.int .i64 0]) (.slice (some ⟨g, 0, none⟩) (j + m) c) (j + m) (xs.eraseIdx j) from ⟨o3, by rw [List.length_eraseIdx_of_lt (by omega), hl]; omega⟩)
  have hW := Lib.hid hW1
  have G2 := Lib.hid g2
  have hb1 : ((j : Int) == (j : Int) + 1) = false := by simp; omega
  have i0 : (0 : Int) ≤ (j : Int) := by omega
  have i1 : (j : Int) ≤ (c : Int) := by omega
  have i2 : (j : Int) + 1 ≤ (c : Int) := by omega
  have i3 : j ≤ c := by omega
  have i4 : j + 1 ≤ c := by omega
  have hcn : ¬ c = j + m := by omega
  have hn1 : j + 1 + m - (j + m) = 1 := by omega
  by_cases hc1 : c = j + 1
  · have hm0 : m = 0 := by omega
    subst hm0
    have hn0 : news = [] := List.eq_nil_of_length_eq_zero (by have := hnl; omega)
    subst hn0
    subst hc1
    have s4 := Lib.hid (show ∀ (t : Nat) (u : Value), ([] : List Value)[t]? = some u → w.drew.cell? ((⟨g, 0, none⟩ : Addr).add t) = some u from fun t u hu => by simp at hu)
    clear hW1 o1 g1 o2 g2 o3 hrd h hl hLL hnl hnews
    simp only [Nat.add_zero] at hcl O3 G2 hcn
    simp only [Nat.mul_one] at hcl O3 G2
    have a1 : (j : Int) ≤ (j : Int) + 1 := by omega
    have a2 : (0 : Int) ≤ (j : Int) + 1 := by omega
    go_enter Try.func41, Try.ntmps41
    go_wp2_with fail
    go_region_law (refine step_append_room rfl (.tmp 22) (.tmp 25) 26 rfl 3 inf 1 Try.underlying26 hi iz1 g 0 j (j + 1) (by simp [Act.eval, Act.put]) ⟨g, 0, none⟩ 0 0 [] (by simp [Act.eval, Act.put]) s1.out s4.out s2.out (by omega) s3.out ?_; rw [← hW.out])
    go_wp2
    go_ret
    exact ⟨rfl, O3.out, G2.out⟩
  · have s4 := Lib.hid (show ∀ (t : Nat) (u : Value), news[t]? = some u → w.drew.cell? ((⟨g, (j + 1) * 1, none⟩ : Addr).add t) = some u from fun t u hu => by
      rw [← hnews] at hu
      have h1 : (xs.flatMap icells)[(j + 1) * 1 + t]? = some u := by
        have h2 : xs = xs.take (j + 1) ++ xs.drop (j + 1) := (List.take_append_drop _ _).symm
        have h3 : (xs.flatMap icells) = (xs.take (j + 1)).flatMap icells ++ (xs.drop (j + 1)).flatMap icells := by rw [← List.flatMap_append, List.take_append_drop]
        have h4 : ((xs.take (j + 1)).flatMap icells).length = (j + 1) * 1 := by rw [flatMap_len icells_len, List.length_take, hl]; congr 1; omega
        rw [h3, List.getElem?_append_right (by rw [h4]; omega), h4, Nat.add_sub_cancel_left]
        exact hu
      have h5 := h.1.cells (g := g) rfl _ u h1
      rw [Addr.add_lit] at h5 ⊢
      rw [Nat.zero_add] at h5
      exact h5)
    have hc2 : ¬ j + 1 = c := fun e => hc1 e.symm
    clear hW1 o1 g1 o2 g2 o3 hrd h hl hLL hnl hnews
    simp only [Nat.mul_one] at hcl O3 G2 s4
    have a1 : (j : Int) ≤ (j : Int) + 1 := by omega
    have a2 : (0 : Int) ≤ (j : Int) + 1 := by omega
    have a3 : (j : Int) + 1 ≤ (j : Int) + 1 + (m : Int) := by omega
    have a4 : (j : Int) + 1 + (m : Int) ≤ (c : Int) := by omega
    have a5 : (j : Int) + (m : Int) ≤ (j : Int) + 1 + (m : Int) := by omega
    go_enter Try.func41, Try.ntmps41
    go_wp2_with fail
    go_region_law (refine step_append_room rfl (.tmp 22) (.tmp 25) 26 rfl 3 inf 1 Try.underlying26 hi iz1 g 0 j c (by simp [Act.eval, Act.put]) ⟨g, j + 1, none⟩ m (c - (j + 1)) news (by simp [Act.eval, Act.put]) s1.out s4.out s2.out (by omega) s3.out ?_; rw [← hW.out])
    go_wp2
    go_ret
    exact ⟨rfl, O3.out, G2.out⟩
-- DEL END

set_option maxRecDepth 100000 in
set_option maxHeartbeats 3200000 in
theorem clone_tasks (b off n c : Nat) (xs : List T) (w : World) (h : RdT w (some ⟨b, off, none⟩) n c xs) (h0 : 0 < n) (hn : n ≤ 1000) :
    Calls Try.prog 55 #[.slice (some ⟨b, off, none⟩) n c] w fun e w' => ∃ g d : Nat, e = .returned (.slice (some ⟨g, 0, none⟩) n d) ∧ OwnT w w' (.slice (some ⟨g, 0, none⟩) n d) n xs ∧ Below w.heap.size w w' := by
  obtain ⟨inf, hi, iz0, iz1, iz2⟩ := info_parts infoTaskD
  have hbA := (Below.refl w.heap.size w).alloc (Nat.le_refl _) (.cells #[] 40)
  have N0 := Lib.hid (OwnT.new w)
  have hl := Lib.hid h.len
  have s1 := Lib.hid (rd_cells (A := none) (h.alloc (.cells #[] 40)) h0)
  have l1 := Lib.hid (show (xs.flatMap T.cells).length = n * 5 by rw [flatMap_len T.cells_len, h.len])
  have hnil := fun (w : World) => Lib.run_eql_slice_nil (P := Try.prog) w 23 40 (some ⟨b, off, none⟩) n c 0 0 Try.underlying23
  clear h
  go_enter Try.func55, Try.ntmps55
  go_wp2_with (at_builtin; refine wpList_append_own _ rfl (.tmp 5) (.tmp 6) 23 rfl w.heap.size 40 inf _ 5 40 Try.underlying23 hi iz0 iz1 iz2 rfl (by decide) _ _ _ rfl N0.out.1 ⟨b, off, none⟩ n c (xs.flatMap T.cells) rfl l1.out s1.out (cells_all_one _) ?c3 ?c4 ?c5 ?_)
  case c3 => unfold maxLen; omega
  case c4 => omega
  case c5 => simp
  intro v' w1 hown hg hnn
  have hg' : (w.alloc (.cells #[] 40)).grownBy w1 (some w.heap.size) := hg
  have hz1 := hbA.grown hg' hbA.size (fun k e => by injection e with e; omega)
  have N1 : OwnT w w1 v' n xs := ⟨by simpa using hown, hl.out⟩
  have nn : v' ≠ .slice none 0 0 := fun e => by first | exact hnn e | (have h := (hnn.1 e).1; cases h)
  obtain ⟨g, d, hv, _⟩ := own_some N1 nn
  subst hv
  have N2 := Lib.hid N1
  clear N1 nn hown hg hg' hnn s1 l1 N0
  go_wp2
  go_ret
  exact ⟨_, _, rfl, N2.out, hz1⟩

end Go.Proofs.Ytcgjifklapaeeaa
