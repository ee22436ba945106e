/- The contracts of slices.Clone and slices.Delete of one element, at tasks and at numbers, on rows of the call's own. Condition: the place is in the row. -/
import Derived.Test.YtdafioafbgkilaaSortS
import Derived.Test.YtdafioafbgkilaaDrawO
import Derived.Deep.RegionLaw
import Derived.Lib.SliceRun
namespace Go.Proofs.Ytdafioafbgkilaa
open Go.RowKit
set_option linter.unusedVariables false

/-- cells stored one behind the other into a row -/
theorem own_setCells {base g c n k : Nat} {e : TypeId} : ∀ (vs : List Value) (o : Nat) (w : World) (L : List Value), w.ownsRow base e k (.slice (some ⟨g, 0, none⟩) n c) n L → o + vs.length ≤ L.length →
    (w.setCells g o vs).ownsRow base e k (.slice (some ⟨g, 0, none⟩) n c) n (L.take o ++ vs ++ L.drop (o + vs.length)) := by
  intro vs
  induction vs with
  | nil => intro o w L h hl; simpa [World.setCells] using h
  | cons v r ih =>
    intro o w L h hl
    rw [List.length_cons] at hl
    have h1 := (h.stored o v).1
    have h2 := ih (o + 1) _ _ h1 (by rw [List.length_set]; omega)
    have ho : o < L.length := by omega
    have e0 : L.set o v = L.take o ++ v :: L.drop (o + 1) := by rw [List.set_eq_take_append_cons_drop, if_pos ho]
    have lt : (L.take o).length = o := by rw [List.length_take]; omega
    have e1 : (L.set o v).take (o + 1) = L.take o ++ [v] := by
      rw [e0, List.take_append, List.take_of_length_le (by omega), lt, show o + 1 - o = 1 by omega]
      rfl
    have e2 : (L.set o v).drop (o + 1 + r.length) = L.drop (o + (r.length + 1)) := by
      rw [List.drop_set_of_lt (by omega)]
      congr 1; omega
    rw [e1, e2] at h2
    show ((w.setCell ⟨g, o, none⟩ v).setCells g (o + 1) r).ownsRow _ _ _ _ _ _
    rw [List.length_cons]
    simpa using h2
theorem grown_setCells {g : Nat} : ∀ (vs : List Value) (o : Nat) (a w : World), a.grownBy w (some g) → a.grownBy (w.setCells g o vs) (some g) := by
  intro vs
  induction vs with
  | nil => intro o a w h; exact h
  | cons v r ih =>
    intro o a w h
    refine ih (o + 1) a _ ⟨h.os, h.tape, h.output, by simpa using h.size, fun k hk hne => ?_⟩
    rw [heap_setCell_other _ _ _ _ (by intro e; apply hne; rw [e])]
    exact h.block k hk hne
theorem own_cut {w : World} {base g c n k m : Nat} {e : TypeId} {L : List Value} (h : w.ownsRow base e k (.slice (some ⟨g, 0, none⟩) n c) n L) (hm : m ≤ n) : w.ownsRow base e k (.slice (some ⟨g, 0, none⟩) m c) m (L.take (m * k)) := by
  have hmk : m * k ≤ n * k := Nat.mul_le_mul_right _ hm
  refine ⟨by rw [List.length_take, h.1]; omega, ?_⟩
  rcases h.2 with ⟨hv, _⟩ | ⟨g', cap, cur, hv, hb, hg, hnc, hcm, hcs, ht⟩
  · injection hv with hv; cases hv
  · injection hv with e1 e2 e3
    injection e1 with e1; injection e1 with e1
    subst e1 e3
    exact Or.inr ⟨g, c, cur, rfl, hb, hg, by omega, hcm, hcs, by rw [← ht, List.take_take, Nat.min_eq_left hmk]⟩
theorem own_bounds {w : World} {base g c n k : Nat} {e : TypeId} {L : List Value} (h : w.ownsRow base e k (.slice (some ⟨g, 0, none⟩) n c) n L) : n ≤ c ∧ c ≤ maxLen := by
  rcases h.2 with ⟨hv, _⟩ | ⟨g', cap, cur, hv, hb, hg, hnc, hcm, hcs, ht⟩
  · injection hv with hv; cases hv
  · injection hv with e1 e2 e3
    subst e3
    exact ⟨hnc, hcm⟩
theorem own_drew {w : World} {base n k : Nat} {e : TypeId} {v : Value} {L : List Value} (h : w.ownsRow base e k v n L) : w.drew.ownsRow base e k v n L := h
/-- clearing one element of k cells -/
theorem clear_one {P : Program} (w : World) (t e ty : TypeId) (z : Value) (zs : List Value) (ht : P.underlying t = some (.slice e)) (hv : ∀ w, (zeroValue e).run P w = .ok z w) (hz : (Builtin.zeroCells z.cells 1).toList = zs) (h1 : ∀ v ∈ zs, v.oneCell' = true) (b o c : Nat)
    (hc : ∀ j, j < zs.length → (w.cell? ⟨b, o + j, none⟩).isSome = true) (hf : ∀ j, j < zs.length → w.frozen? ⟨b, o + j, none⟩ = false) :
    (Builtin.clear_ #[t] ty #[.slice (some ⟨b, o, none⟩) 1 c]).run P w = .ok (.tuple #[]) (w.setCells b o zs) := by
  have hst := run_storeCells_cells (P := P) b o zs 0 w (by simpa using hc) (by simpa using hf) h1
  simp only [Nat.add_zero] at hst
  simp [Builtin.clear_, run_underlying ht, hv, hz, hst]
theorem erase_eq {α : Type} (xs : List α) (j : Nat) : xs.eraseIdx j = xs.take j ++ xs.drop (j + 1) := by rw [List.eraseIdx_eq_take_drop_succ]
/-- what the deletion leaves -/
theorem del_cells {α : Type} {k : Nat} {enc : α → List Value} (hk : ∀ x, (enc x).length = k) {xs : List α} {j m : Nat} (hl : xs.length = j + 1 + m) (zs : List Value) (hzs : zs.length = k) :
    (((xs.flatMap enc).take (j * k) ++ (xs.drop (j + 1)).flatMap enc ++ (xs.flatMap enc).drop (j * k + ((xs.drop (j + 1)).flatMap enc).length)).take ((j + m) * k) ++ zs ++
      ((xs.flatMap enc).take (j * k) ++ (xs.drop (j + 1)).flatMap enc ++ (xs.flatMap enc).drop (j * k + ((xs.drop (j + 1)).flatMap enc).length)).drop ((j + m) * k + zs.length)).take ((j + m) * k) = (xs.eraseIdx j).flatMap enc := by
  have h1 : ((xs.drop (j + 1)).flatMap enc).length = m * k := by rw [flatMap_len hk, List.length_drop, hl]; congr 1; omega
  have h2 : ((xs.flatMap enc).take (j * k)).length = j * k := by rw [List.length_take, flatMap_len hk, hl, Nat.min_eq_left (Nat.mul_le_mul_right _ (by omega))]
  have h3 : ((xs.flatMap enc).take (j * k) ++ (xs.drop (j + 1)).flatMap enc).length = (j + m) * k := by rw [List.length_append, h1, h2, Nat.add_mul]
  rw [List.append_assoc, List.take_append_of_le_length (by rw [List.length_take, List.length_append, List.length_append, h1, h2, Nat.add_mul]; omega)]
  rw [List.take_take, Nat.min_self, List.take_append_of_le_length (by rw [h3]; exact Nat.le_refl _), List.take_of_length_le (by rw [h3]; exact Nat.le_refl _), erase_eq, List.flatMap_append, flatMap_take hk]

-- DEL BEGIN
theorem icells_all_one (xs : List Int) : ∀ u ∈ xs.flatMap icells, u.oneCell' = true := by
  intro u hu
  obtain ⟨x, _, hx⟩ := List.mem_flatMap.1 hu
  exact icells_oneCell x u hx


-- DEL END

set_option maxRecDepth 100000 in
set_option maxHeartbeats 3200000 in
theorem clone_tasks (b off n c : Nat) (xs : List T) (w : World) (h : RdT w (some ⟨b, off, none⟩) n c xs) (h0 : 0 < n) (hn : n ≤ 1000) :
    Calls Try.prog 56 #[.slice (some ⟨b, off, none⟩) n c] w fun e w' => ∃ g d : Nat, e = .returned (.slice (some ⟨g, 0, none⟩) n d) ∧ OwnT w w' (.slice (some ⟨g, 0, none⟩) n d) n xs ∧ Below w.heap.size w w' := by
  obtain ⟨inf, hi, iz0, iz1, iz2⟩ := info_parts infoTaskD
  have hbA := (Below.refl w.heap.size w).alloc (Nat.le_refl _) (.cells #[] 48)
  have N0 := Lib.hid (OwnT.new w)
  have hl := Lib.hid h.len
  have s1 := Lib.hid (rd_cells (A := none) (h.alloc (.cells #[] 48)) h0)
  have l1 := Lib.hid (show (xs.flatMap T.cells).length = n * 5 by rw [flatMap_len T.cells_len, h.len])
  have hnil := fun (w : World) => Lib.run_eql_slice_nil (P := Try.prog) w 23 48 (some ⟨b, off, none⟩) n c 0 0 Try.underlying23
  clear h
  go_enter Try.func56, Try.ntmps56
  go_wp2_with (at_builtin; refine wpList_append_own _ rfl (.tmp 5) (.tmp 6) 23 rfl w.heap.size 48 inf _ 5 40 Try.underlying23 hi iz0 iz1 iz2 rfl (by decide) _ _ _ rfl N0.out.1 ⟨b, off, none⟩ n c (xs.flatMap T.cells) rfl l1.out s1.out (cells_all_one _) ?c3 ?c4 ?c5 ?_)
  case c3 => unfold maxLen; omega
  case c4 => omega
  case c5 => simp
  intro v' w1 hown hg hnn
  have hg' : (w.alloc (.cells #[] 48)).grownBy w1 (some w.heap.size) := hg
  have hz1 := hbA.grown hg' hbA.size (fun k e => by injection e with e; omega)
  have N1 : OwnT w w1 v' n xs := ⟨by simpa using hown, hl.out⟩
  have nn : v' ≠ .slice none 0 0 := fun e => by first | exact hnn e | (have h := (hnn.1 e).1; cases h)
  obtain ⟨g, d, hv, _⟩ := own_some N1 nn
  subst hv
  have N2 := Lib.hid N1
  clear N1 nn hown hg hg' hnn s1 l1 N0
  go_wp2
  go_ret
  exact ⟨_, _, rfl, N2.out, hz1⟩

end Go.Proofs.Ytdafioafbgkilaa
