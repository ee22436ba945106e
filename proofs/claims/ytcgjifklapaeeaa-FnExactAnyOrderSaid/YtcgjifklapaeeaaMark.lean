/- The contracts of the exact laws' marks on tasks and numbers: markTaskS, heldTaskS, markIntS, heldIntS. Conditions: the marked slice is the law's own; at most 2^20 elements. -/
import Derived.Test.YtcgjifklapaeeaaDrawO
namespace Go.Proofs.Ytcgjifklapaeeaa
open Go.RowKit
set_option linter.unusedVariables false

/-- the i-th marked task -/
def markT (k : Int) (i : Nat) : T := ⟨k + 5 * i, k + 5 * i + 1, k + 5 * i + 1 + 1, k + 5 * i + 1 + 1 + 1, (k + 5 * i + 1 + 1 + 1 + 1) % 3 == 0⟩
def markTL (k : Int) (n : Nat) : List T := (List.range n).map (markT k)
def markIL (k : Int) (n : Nat) : List Int := (List.range n).map (fun i : Nat => k + (i : Int))
theorem markTL_len (k : Int) (n : Nat) : (markTL k n).length = n := by simp [markTL]
theorem markIL_len (k : Int) (n : Nat) : (markIL k n).length = n := by simp [markIL]
theorem markTL_at {k : Int} {n i : Nat} (h : i < n) : (markTL k n)[i]? = some (markT k i) := by simp [markTL, h]
theorem markIL_at {k : Int} {n i : Nat} (h : i < n) : (markIL k n)[i]? = some (k + (i : Int)) := by simp [markIL, h]

theorem mark_set {α : Type} (f : Nat → α) (xs : List α) (j : Nat) (h : j < xs.length) : ((List.range j).map f ++ xs.drop j).set j (f j) = (List.range (j + 1)).map f ++ xs.drop (j + 1) := by
  have hl : ((List.range j).map f).length = j := by simp
  have hd : xs.drop j = xs[j] :: xs.drop (j + 1) := by rw [List.drop_eq_getElem_cons h]
  rw [List.set_append_right _ _ (by omega), hl, Nat.sub_self, hd, List.set_cons_zero, List.range_succ, List.map_append, List.append_assoc]
  rfl

theorem grown_own {w w' : World} {g : Nat} (h : w.grownBy w' (some g)) (o : Nat) (v : Value) : w.grownBy (w'.setCell ⟨g, o, none⟩ v) (some g) :=
  ⟨h.os, h.tape, h.output, by simpa [World.setCell] using h.size, fun i hi hne => (heap_setCell_other w' ⟨g, o, none⟩ i v (fun e => hne (by rw [e]))).trans (h.block i hi hne)⟩
theorem ret5 {a b : Int} (h : a = b) : Value.int .i64 a = Value.int .i64 b := by rw [h]

set_option maxRecDepth 100000 in
set_option maxHeartbeats 3200000 in
theorem markTaskS_any (A : Option Addr) (n c : Nat) (xs : List T) (k : Int) (u w : World) (h : OwnT u w (.slice A n c) n xs) (hn : n ≤ 1048576) (hk0 : 0 ≤ k) (hk1 : k ≤ 1000000000) :
    Calls Try.prog 27 #[.slice A n c, .int .i64 k] w fun e w' => e = .returned (.int .i64 (k + 5 * n)) ∧ OwnT u w' (.slice A n c) n (markTL k n) ∧ w.grownBy w' (Value.ownBlock (.slice A n c)) := by
  have H := Lib.hid h
  have hl := Lib.hid h.2
  clear h
  go_enter Try.func27, Try.ntmps27
  go_wp2
  go_loopw [1, 5] (fun q i wr => ∃ j : Nat, i = .int .i64 j ∧ j ≤ n ∧ q = .int .i64 (k + 5 * j) ∧ OwnT u wr (.slice A n c) n (markTL k j ++ xs.drop j) ∧ w.grownBy wr (Value.ownBlock (.slice A n c))) (fun _ i _ => n - (intOf i).toNat)
  case atStart => exact ⟨0, rfl, Nat.zero_le _, by simp, by simpa [markTL] using H.out, grown_refl _ _⟩
  case round =>
    obtain ⟨j, rfl, hj, rfl, ho, hg⟩ := hrel
    replace ho := Lib.hid ho
    replace hg := Lib.hid hg
    by_cases hjn : j < n
    · obtain ⟨g, hA, hgu⟩ : ∃ g, A = some ⟨g, 0, none⟩ ∧ u.heap.size ≤ g := by
        rcases ho.out.form with ⟨_, h0⟩ | ⟨g, c', e, hgw⟩
        · omega
        · injection e with e1 _ _; exact ⟨g, e1, hgw⟩
      subst hA
      obtain ⟨u0, q0⟩ := own_cell ho.out.1 (j := j * 5) (by omega)
      obtain ⟨u1, q1⟩ := own_cell ho.out.1 (j := j * 5 + 1) (by omega)
      obtain ⟨u2, q2⟩ := own_cell ho.out.1 (j := j * 5 + 2) (by omega)
      obtain ⟨u3, q3⟩ := own_cell ho.out.1 (j := j * 5 + 3) (by omega)
      obtain ⟨u4, q4⟩ := own_cell ho.out.1 (j := j * 5 + 4) (by omega)
      have f0 := ho.out.1.frozenAt (j * 5)
      have f1 := ho.out.1.frozenAt (j * 5 + 1)
      have f2 := ho.out.1.frozenAt (j * 5 + 2)
      have f3 := ho.out.1.frozenAt (j * 5 + 3)
      have f4 := ho.out.1.frozenAt (j * 5 + 4)
      have o1 := Lib.hid (ho.out.set_ j hjn (markT k j))
      have hms := Lib.hid (mark_set (markT k) xs j (by rw [hl.out]; exact hjn))
      go_wp2
      go_roundw
      case rel => exact ⟨j + 1, by go_num, by omega, ret5 (by omega), by unfold markTL; rw [← hms.out]; exact o1.out, grown_own (grown_own (grown_own (grown_own (grown_own hg.out _ _) _ _) _ _) _ _) _ _⟩
      case measure => simp [intOf]; omega
    · have hjn' : j = n := by omega
      subst hjn'
      have HX := Lib.hid (show markTL k j ++ xs.drop j = markTL k j by rw [List.drop_of_length_le (by rw [hl.out]; omega), List.append_nil])
      rw [HX.out] at ho
      go_wp2
      go_ret
      exact ⟨rfl, ho.out, hg.out⟩


set_option maxRecDepth 100000 in
set_option maxHeartbeats 3200000 in
theorem markIntS_any (A : Option Addr) (n c : Nat) (xs : List Int) (k : Int) (u w : World) (h : OwnI u w (.slice A n c) n xs) (hn : n ≤ 1048576) (hk0 : 0 ≤ k) (hk1 : k ≤ 1000000000) :
    Calls Try.prog 28 #[.slice A n c, .int .i64 k] w fun e w' => e = .returned (.int .i64 (k + n)) ∧ OwnI u w' (.slice A n c) n (markIL k n) ∧ w.grownBy w' (Value.ownBlock (.slice A n c)) := by
  have H := Lib.hid h
  have hl := Lib.hid h.2
  clear h
  go_enter Try.func28, Try.ntmps28
  go_wp2
  go_loopw [1, 5] (fun q i wr => ∃ j : Nat, i = .int .i64 j ∧ j ≤ n ∧ q = .int .i64 (k + j) ∧ OwnI u wr (.slice A n c) n (markIL k j ++ xs.drop j) ∧ w.grownBy wr (Value.ownBlock (.slice A n c))) (fun _ i _ => n - (intOf i).toNat)
  case atStart => exact ⟨0, rfl, Nat.zero_le _, by simp, by simpa [markIL] using H.out, grown_refl _ _⟩
  case round =>
    obtain ⟨j, rfl, hj, rfl, ho, hg⟩ := hrel
    replace ho := Lib.hid ho
    replace hg := Lib.hid hg
    by_cases hjn : j < n
    · obtain ⟨g, hA, hgu⟩ : ∃ g, A = some ⟨g, 0, none⟩ ∧ u.heap.size ≤ g := by
        rcases ho.out.form with ⟨_, h0⟩ | ⟨g, c', e, hgw⟩
        · omega
        · injection e with e1 _ _; exact ⟨g, e1, hgw⟩
      subst hA
      obtain ⟨u0, q0⟩ := ho.out.at_ (k := j) hjn
      have f0 := ho.out.1.frozenAt j
      have o1 := Lib.hid (ho.out.set_ j (k + (j : Int)))
      have hms := Lib.hid (mark_set (fun i : Nat => k + (i : Int)) xs j (by rw [hl.out]; exact hjn))
      go_wp2
      go_roundw
      case rel => exact ⟨j + 1, by go_num, by omega, ret5 (by omega), by unfold markIL; rw [← hms.out]; exact o1.out, grown_own hg.out _ _⟩
      case measure => simp [intOf]; omega
    · have hjn' : j = n := by omega
      subst hjn'
      have HX := Lib.hid (show markIL k j ++ xs.drop j = markIL k j by rw [List.drop_of_length_le (by rw [hl.out]; omega), List.append_nil])
      rw [HX.out] at ho
      go_wp2
      go_ret
      exact ⟨rfl, ho.out, hg.out⟩

set_option maxRecDepth 100000 in
set_option maxHeartbeats 3200000 in
theorem heldIntS_any (A : Option Addr) (n c : Nat) (k : Int) (w : World) (h : RdI w A n c (markIL k n)) (hn : n ≤ 1048576) (hk0 : 0 ≤ k) (hk1 : k ≤ 1000000000) :
    Calls Try.prog 29 #[.slice A n c, .int .i64 k] w fun e w' => e = .returned (.int .i64 (k + n)) ∧ Below w.heap.size w w' := by
  have H := Lib.hid h
  clear h
  go_enter Try.func29, Try.ntmps29
  go_wp2
  go_loopw [1, 5] (fun q i wr => ∃ j : Nat, i = .int .i64 j ∧ j ≤ n ∧ q = .int .i64 (k + j) ∧ Below w.heap.size w wr) (fun _ i _ => n - (intOf i).toNat)
  case atStart => exact ⟨0, rfl, Nat.zero_le _, by simp, Below.refl _ _⟩
  case round =>
    obtain ⟨j, rfl, hj, rfl, hbel⟩ := hrel
    by_cases hjn : j < n
    · obtain ⟨b, off, x, rfl, hx, hb, c0⟩ := (H.out.below hbel).intAt hjn
      rw [markIL_at hjn] at hx
      injection hx with hx
      subst hx
      have e0 : (k + (j : Int) != k + (j : Int)) = false := by simp
      go_wp2
      go_roundw
      case rel => exact ⟨j + 1, by go_num, by omega, ret5 (by omega), hbel⟩
      case measure => simp [intOf]; omega
    · have hjn' : j = n := by omega
      subst hjn'
      go_wp2
      go_ret
      exact ⟨rfl, hbel⟩

/-- the slice's block, if it has an element, lies below s -/
def Under (s : Nat) (A : Option Addr) (n : Nat) : Prop := ∀ b off, A = some ⟨b, off, none⟩ → 0 < n → b < s
theorem Under.of_rd {α : Type} {k : Nat} {enc : α → List Value} {w : World} {A : Option Addr} {n c : Nat} {xs : List α} (h : Rd k enc w A n c xs) (he : ∀ x, 0 < (enc x).length) : Under w.heap.size A n := fun b off e h0 => by
  obtain ⟨b', off', e', hc⟩ := h.cells h0
  rw [e] at e'; injection e' with e'; injection e' with e1
  have hl : 0 < xs.length := by rw [h.len]; exact h0
  have := lt_of_cell (hc 0 _ (List.getElem?_eq_getElem hl) 0 _ (List.getElem?_eq_getElem (he _)))
  omega
theorem Under.t {w : World} {A : Option Addr} {n c : Nat} {xs : List T} (h : RdT w A n c xs) : Under w.heap.size A n := Under.of_rd h (fun _ => by simp [T.cells])
theorem Under.i {w : World} {A : Option Addr} {n c : Nat} {xs : List Int} (h : RdI w A n c xs) : Under w.heap.size A n := Under.of_rd h (fun _ => by simp [icells])
/-- a list is read as before where another, later block has turned -/
theorem Rd.other {α : Type} {k : Nat} {enc : α → List Value} {w w' : World} {A : Option Addr} {n c : Nat} {xs : List α} (h : Rd k enc w A n c xs) {s : Nat} (hu : Under s A n) {row : Option Nat} (hg : w.grownBy w' row) (hr : ∀ g, row = some g → s ≤ g) : Rd k enc w' A n c xs :=
  ⟨h.len, h.cap, h.max, fun h0 => by
    obtain ⟨b, off, e, hc⟩ := h.cells h0
    exact ⟨b, off, e, fun i x hx j u hu' => hg.cell (hc i x hx j u hu') (fun e' => by have := hr b e'.symm; have := hu b off e h0; omega)⟩⟩
theorem own_row {w w1 : World} {v : Value} {m : Nat} {L : List Value} {e : TypeId} {k : Nat} (h : w1.ownsRow w.heap.size e k v m L) : ∀ g, v.ownBlock = some g → w.heap.size ≤ g := fun g hg => (h.lt g hg).1
theorem own_lt2 {w w1 : World} {v : Value} {m : Nat} {L : List Value} {e : TypeId} {k : Nat} (h : w1.ownsRow w.heap.size e k v m L) : ∀ g, v.ownBlock = some g → g < w1.heap.size := fun g hg => (h.lt g hg).2
/-- an owned list is kept where a block of another list has turned -/
theorem OwnT.other {u w w' : World} {v : Value} {m : Nat} {xs : List T} (h : OwnT u w v m xs) {row : Option Nat} (hg : w.grownBy w' row) (hr : ∀ g, v.ownBlock = some g → row ≠ some g) : OwnT u w' v m xs :=
  ⟨h.1.kept hg (by
    cases hv : v.ownBlock with
    | none => exact Or.inl rfl
    | some g => right; intro e; exact hr g hv e.symm), h.2⟩
theorem OwnI.other {u w w' : World} {v : Value} {m : Nat} {xs : List Int} (h : OwnI u w v m xs) {row : Option Nat} (hg : w.grownBy w' row) (hr : ∀ g, v.ownBlock = some g → row ≠ some g) : OwnI u w' v m xs :=
  ⟨h.1.kept hg (by
    cases hv : v.ownBlock with
    | none => exact Or.inl rfl
    | some g => right; intro e; exact hr g hv e.symm), h.2⟩
theorem OwnI.below {w w1 w2 : World} {v : Value} {m : Nat} {xs : List Int} (h : OwnI w w1 v m xs) (hb : Below w1.heap.size w1 w2) : OwnI w w2 v m xs := ⟨own_below h.1 hb, h.2⟩

end Go.Proofs.Ytcgjifklapaeeaa
