/- Words for what a listener may change while orders are told; the contracts of slices.Contains and slices.Clone of numbers. Condition of Clone: at most 1000 numbers; an empty list is nil. -/
import Derived.Test.YtcgjifklapaeeaaAll
import Derived.Test.YtcgjifklapaeeaaRespI
namespace Go.Proofs.Ytcgjifklapaeeaa
open Go.RowKit
set_option linter.unusedVariables false

/-- new blocks, and writes to the blocks of S alone -/
structure Kept (S : Nat → Prop) (w w' : World) : Prop where
  os : w'.os = w.os
  tape : w'.tape = w.tape
  output : w'.output = w.output
  size : w.heap.size ≤ w'.heap.size
  block : ∀ i, i < w.heap.size → ¬ S i → w'.heap[i]? = w.heap[i]?
section
variable {S : Nat → Prop} {w w1 w2 : World}
theorem Kept.refl (S : Nat → Prop) (w : World) : Kept S w w := ⟨rfl, rfl, rfl, Nat.le_refl _, fun _ _ _ => rfl⟩
theorem Kept.trans (h : Kept S w w1) (k : Kept S w1 w2) : Kept S w w2 :=
  ⟨k.os.trans h.os, k.tape.trans h.tape, k.output.trans h.output, Nat.le_trans h.size k.size, fun i hi hs => (k.block i (Nat.lt_of_lt_of_le hi h.size) hs).trans (h.block i hi hs)⟩
theorem Kept.of_below (h : Below w.heap.size w w1) : Kept S w w1 := ⟨h.os, h.tape, h.output, h.size, fun i hi _ => h.block i hi⟩
theorem Kept.below (h : Kept S w w1) (hb : Below w1.heap.size w1 w2) : Kept S w w2 := h.trans (Kept.of_below hb)
theorem Kept.set_ (h : Kept S w w1) {p : Addr} (hp : S p.block) (u : Value) : Kept S w (w1.setCell p u) :=
  ⟨h.os, h.tape, h.output, by simpa [World.setCell] using h.size, fun i hi hs => (heap_setCell_other w1 p i u (fun e => hs (by rw [e]; exact hp))).trans (h.block i hi hs)⟩
theorem Kept.alloc (h : Kept S w w1) (o : Obj) : Kept S w (w1.alloc o) := h.below ((Below.refl _ _).alloc (Nat.le_refl _) _)
theorem Kept.drew (h : Kept S w w1) : Kept S w w1.drew := h.below ((Below.refl _ _).drew)
/-- kept below b where all of S is from b on -/
theorem Kept.to_below (h : Kept S w w1) {b : Nat} (hb : b ≤ w.heap.size) (hS : ∀ i, S i → b ≤ i) : Below b w w1 :=
  ⟨h.os, h.tape, h.output, h.size, fun i hi => h.block i (by omega) (fun e => by have := hS i e; omega)⟩
theorem Blk.kept {g : Nat} {t : TypeId} {cs : Array Value} (h : Blk w g t cs) (hk : Kept S w w1) (hs : ¬ S g) : Blk w1 g t cs := (hk.block g h.lt hs).trans h
theorem Rd.kept {α : Type} {k : Nat} {enc : α → List Value} {A : Option Addr} {n c : Nat} {xs : List α} (h : Rd k enc w A n c xs) (hk : Kept S w w1) (hs : ∀ b off, A = some ⟨b, off, none⟩ → 0 < n → ¬ S b) : Rd k enc w1 A n c xs := by
  refine ⟨h.len, h.cap, h.max, fun h0 => ?_⟩
  obtain ⟨b, off, e, hc⟩ := h.cells h0
  refine ⟨b, off, e, fun i x hx j u hu => ?_⟩
  have h1 := hc i x hx j u hu
  rw [← h1]
  unfold World.cell?
  rw [hk.block b (lt_of_cell h1) (hs b off e h0)]
end

theorem not_in_succ {xs : List Int} {k : Nat} {x y : Int} (hx : xs[k]? = some y) (h : x ∉ xs.take k) (hne : ¬ x = y) : x ∉ xs.take (k + 1) := by
  rw [take_succ_of hx]
  simp only [List.mem_append, List.mem_singleton]
  rintro (h1 | h1)
  · exact h h1
  · exact hne h1

/-- an index, or none -/
def IdxPost (w : World) (x : Int) (xs : List Int) (e : Ending) (w' : World) : Prop :=
  ∃ v : Int, e = .returned (.int .i64 v) ∧ decide (0 ≤ v) = decide (x ∈ xs) ∧ Below w.heap.size w w'
set_option maxHeartbeats 1600000 in
theorem index_ints (A : Option Addr) (n c : Nat) (xs : List Int) (x : Int) (w : World) (h : RdI w A n c xs) :
    Calls Try.prog 62 #[.slice A n c, .int .i64 x] w (IdxPost w x xs) := by
  have q0 := Lib.hid h
  have hm : n ≤ maxLen := Nat.le_trans h.cap h.max
  unfold maxLen at hm
  clear h
  go_enter Try.func62, Try.ntmps62
  go_wp2_with fail
  go_loopw [8] (fun iv wr => ∃ k : Nat, iv = .int .i64 k ∧ k ≤ n ∧ Hid (x ∉ xs.take k) ∧ Below w.heap.size w wr) (fun iv _ => n - (intOf iv).toNat)
  case atStart => exact ⟨0, rfl, Nat.zero_le _, Lib.hid (by simp), Below.refl _ _⟩
  case round =>
    obtain ⟨k, rfl, hk, hno, hb⟩ := hrel
    by_cases hkn : k < n
    · obtain ⟨b, off, y, rfl, hy, hlt, c0⟩ := (q0.out.below hb).intAt hkn
      have HY := Lib.hid hy
      have k0 : (0 : Int) ≤ (k : Int) := by omega
      have k1 : (k : Int) < (n : Int) := by omega
      clear hy
      by_cases hxy : x = y
      · subst hxy
        have hb2 : (x == x) = true := by simp
        have HR := Lib.hid (show decide (0 ≤ (k : Int)) = decide (x ∈ xs) by rw [decide_eq_true k0, decide_eq_true (List.mem_of_getElem? HY.out)])
        go_wp2
        go_ret
        exact ⟨_, rfl, HR.out, hb⟩
      · have hb2 : (x == y) = false := by simpa using hxy
        have HN := Lib.hid (not_in_succ HY.out hno.out hxy)
        clear hxy
        go_wp2
        go_roundw
        case rel => exact ⟨k + 1, by go_num, by omega, HN, hb⟩
        case measure => simp [intOf]; omega
    · have hkn' : k = n := by omega
      subst hkn'
      have HR := Lib.hid (show decide (0 ≤ (-1 : Int)) = decide (x ∈ xs) by
        have := hno.out
        rw [List.take_of_length_le (by rw [q0.out.len]; exact Nat.le_refl _)] at this
        rw [decide_eq_false this]; rfl)
      go_wp2
      go_ret
      exact ⟨_, rfl, HR.out, hb⟩

set_option maxHeartbeats 1600000 in
theorem contains_ints (A : Option Addr) (n c : Nat) (xs : List Int) (x : Int) (q : Bool) (w : World) (h : RdI w A n c xs) (hq : decide (x ∈ xs) = q) :
    Calls Try.prog 49 #[.slice A n c, .int .i64 x] w fun e w' => e = .returned (.bool q) ∧ Below w.heap.size w w' := by
  have HI := Lib.hid (index_ints A n c xs x w h)
  rw [← hq]
  clear h hq
  go_enter Try.func49, Try.ntmps49
  go_wp2_with fail
  refine HI.out.mono ?_
  rintro e w1 ⟨v, rfl, hv, hb⟩
  have HV := Lib.hid hv
  clear hv
  go_wp2
  go_ret
  exact ⟨ret_bool HV.out, hb⟩

set_option maxRecDepth 100000 in
set_option maxHeartbeats 3200000 in
theorem clone_ints (A : Option Addr) (n c : Nat) (xs : List Int) (w : World) (h : RdI w A n c xs) (h0 : n = 0 → A = none ∧ c = 0) (hn : n ≤ 1000) :
    Calls Try.prog 38 #[.slice A n c] w fun e w' => ∃ (D : Option Addr) (d : Nat), e = .returned (.slice D n d) ∧ OwnI w w' (.slice D n d) n xs ∧ Below w.heap.size w w' := by
  rcases Nat.eq_zero_or_pos n with hn0 | hn0
  · obtain ⟨rfl, rfl⟩ := h0 hn0
    subst hn0
    have hx : xs = [] := List.eq_nil_of_length_eq_zero h.len
    subst hx
    have hnil := fun (w : World) => Lib.run_eql_slice_nil (P := Try.prog) w 26 3 none 0 0 0 0 Try.underlying26
    clear h h0
    go_enter Try.func38, Try.ntmps38
    go_wp2
    go_ret
    exact ⟨_, _, rfl, ⟨World.ownsRow_nil _ _ _ _, rfl⟩, Below.refl _ _⟩
  · obtain ⟨b, off, x, rfl, _⟩ := h.intAt hn0
    obtain ⟨inf, hi, iz0, iz1, iz2⟩ := info_parts infoIntD
    have hbA := (Below.refl w.heap.size w).alloc (Nat.le_refl _) (.cells #[] 3)
    have N0 := Lib.hid (OwnI.new w)
    have hl := Lib.hid h.len
    have s1 := Lib.hid (rdI_cells (h.alloc (.cells #[] 3)))
    have l1 := Lib.hid (show (xs.flatMap icells).length = n * 1 by rw [flatMap_len icells_len, h.len])
    have hnil := fun (w : World) => Lib.run_eql_slice_nil (P := Try.prog) w 26 3 (some ⟨b, off, none⟩) n c 0 0 Try.underlying26
    clear h h0
    go_enter Try.func38, Try.ntmps38
    go_wp2_with (at_builtin; refine wpList_append_own _ rfl (.tmp 5) (.tmp 6) 26 rfl w.heap.size 3 inf _ 1 8 Try.underlying26 hi iz0 iz1 iz2 rfl (by decide) _ _ _ rfl N0.out.1 ⟨b, off, none⟩ n c (xs.flatMap icells) rfl l1.out s1.out (icells_all_one _) (by unfold maxLen; omega) (by omega) (by simp) ?_)
    intro v' w1 hown hg hnn
    have hg' : (w.alloc (.cells #[] 3)).grownBy w1 (some w.heap.size) := hg
    have hz1 := hbA.grown hg' hbA.size (fun k e => by injection e with e; omega)
    have N1 : OwnI w w1 v' n xs := ⟨by simpa using hown, hl.out⟩
    have nn : v' ≠ .slice none 0 0 := fun e => by first | exact hnn e | (have h := (hnn.1 e).1; cases h)
    obtain ⟨g, d, hv, _⟩ := own_someI N1 nn
    subst hv
    have N2 := Lib.hid N1
    clear N1 nn hown hg hg' hnn s1 l1 N0
    go_wp2
    go_ret
    exact ⟨_, _, rfl, N2.out, hz1⟩

end Go.Proofs.Ytcgjifklapaeeaa
