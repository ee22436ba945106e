/- The contracts of OrderValid, of the program and of the reference. No condition. -/
import Derived.Test.YtcgjifklapaeeaaSet
import Derived.Test.YtcgjifklapaeeaaOwn
import Derived.Laws.BitsAllLaws
import Derived.Laws.BitsLemmas
namespace Go.Proofs.Ytcgjifklapaeeaa
open Go.RowKit
set_option linter.unusedVariables false

/-- numbers are all numbers below n, each once -/
def isOrd (n : Nat) (o : List Int) : Bool := decide (o.length = n) && (o.all (fun x => decide (0 ≤ x) && decide (x < n)) && decide o.Nodup)
def ordB (xs : List T) (o : List Int) : Bool := svB xs && isOrd xs.length o

/-- the first numbers of an order -/
def preOrd (n : Nat) (o : List Int) : Prop := (∀ x ∈ o, 0 ≤ x ∧ x < n) ∧ o.Nodup
theorem isOrd_iff (n : Nat) (o : List Int) : isOrd n o = true ↔ o.length = n ∧ preOrd n o := by
  simp only [isOrd, preOrd, Bool.and_eq_true, decide_eq_true_eq, List.all_eq_true]
theorem preOrd_nil (n : Nat) : preOrd n [] := ⟨by simp, List.nodup_nil⟩
theorem preOrd_succ {n k : Nat} {o : List Int} {x : Int} (h : preOrd n (o.take k)) (hx : o[k]? = some x) (h0 : 0 ≤ x) (h1 : x < n) (hn : x ∉ o.take k) : preOrd n (o.take (k + 1)) := by
  rw [take_succ_of hx]
  refine ⟨fun y hy => ?_, ?_⟩
  · rw [List.mem_append, List.mem_singleton] at hy
    rcases hy with hy | rfl
    · exact h.1 y hy
    · exact ⟨h0, h1⟩
  · rw [List.nodup_append]
    refine ⟨h.2, by simp, fun a ha b hb e => ?_⟩
    rw [List.mem_singleton] at hb
    subst hb; subst e
    exact hn ha
theorem isOrd_len {n : Nat} {o : List Int} (h : o.length ≠ n) : isOrd n o = false := by
  rw [Bool.eq_false_iff]; intro h'; exact h ((isOrd_iff n o).1 h').1
theorem isOrd_out {n k : Nat} {o : List Int} {x : Int} (hx : o[k]? = some x) (h : ¬ (0 ≤ x ∧ x < n)) : isOrd n o = false := by
  rw [Bool.eq_false_iff]; intro h'
  exact h (((isOrd_iff n o).1 h').2.1 x (List.mem_of_getElem? hx))
theorem isOrd_twice {n k : Nat} {o : List Int} {x : Int} (hx : o[k]? = some x) (h : x ∈ o.take k) : isOrd n o = false := by
  rw [Bool.eq_false_iff]; intro h'
  have hn := ((isOrd_iff n o).1 h').2.2
  rw [← List.take_append_drop k o, List.nodup_append] at hn
  have hd : x ∈ o.drop k := by
    have : (o.drop k)[0]? = some x := by rw [List.getElem?_drop]; exact hx
    exact List.mem_of_getElem? this
  exact hn.2.2 x h x hd rfl
theorem isOrd_yes {n k : Nat} {o : List Int} (hl : o.length = n) (hk : k = n) (h : preOrd n (o.take k)) : isOrd n o = true := by
  rw [List.take_of_length_le (by omega)] at h
  exact (isOrd_iff n o).2 ⟨hl, h⟩
theorem ordB_no1 {xs : List T} {o : List Int} (h : svB xs = false) : ordB xs o = false := by simp [ordB, h]
theorem ordB_of {xs : List T} {o : List Int} {n : Nat} (hl : xs.length = n) (h : svB xs = true) : ordB xs o = isOrd n o := by simp [ordB, h, hl]

/-- the bits that are set are the numbers that were seen -/
def Seen (m : Nat) (o : List Int) : Prop := m < 32 ∧ ∀ j : Nat, j < 5 → (m.testBit j = true ↔ (j : Int) ∈ o)

theorem Seen.zero : Seen 0 [] := ⟨by omega, fun j _ => by simp⟩
theorem Seen.add {m k : Nat} {o : List Int} {x : Nat} (h : Seen m (o.take k)) (hx : o[k]? = some (x : Int)) (h5 : x < 5) : Seen (m ||| 2 ^ x) (o.take (k + 1)) := by
  refine ⟨Nat.or_lt_two_pow (n := 5) h.1 (Nat.pow_lt_pow_right (by omega) h5), fun j hj => ?_⟩
  rw [take_succ_of hx, List.mem_append, List.mem_singleton, Nat.testBit_or, Bool.or_eq_true, h.2 j hj, Nat.testBit_two_pow]
  simp only [decide_eq_true_eq]
  constructor
  · rintro (h1 | h1)
    · exact Or.inl h1
    · exact Or.inr (by omega)
  · rintro (h1 | h1)
    · exact Or.inl h1
    · exact Or.inr (by omega)

theorem ofInt_i64 (a : Nat) (ha : a < 9223372036854775808) : (BitVec.ofInt 64 (a : Int)).toNat = a := by
  rw [BitVec.ofInt_natCast, BitVec.toNat_ofNat]; exact Nat.mod_eq_of_lt (by omega)
theorem i64_and_nat (a b : Nat) (ha : a < 9223372036854775808) (hb : b < 9223372036854775808) : bits .and .i64 (a : Int) (b : Int) = ((a &&& b : Nat) : Int) := by
  have hx : a &&& b < 2 ^ 63 := Nat.and_lt_two_pow _ (by omega)
  show IntKind.i64.wrap ((BitVec.ofInt 64 (a : Int) &&& BitVec.ofInt 64 (b : Int)).toNat : Int) = _
  rw [BitVec.toNat_and, ofInt_i64 a ha, ofInt_i64 b hb, IntKind.wrap_i64]
  omega
theorem i64_or_nat (a b : Nat) (ha : a < 9223372036854775808) (hb : b < 9223372036854775808) : bits .or .i64 (a : Int) (b : Int) = ((a ||| b : Nat) : Int) := by
  have hx : a ||| b < 2 ^ 63 := Nat.or_lt_two_pow (by omega) (by omega)
  show IntKind.i64.wrap ((BitVec.ofInt 64 (a : Int) ||| BitVec.ofInt 64 (b : Int)).toNat : Int) = _
  rw [BitVec.toNat_or, ofInt_i64 a ha, ofInt_i64 b hb, IntKind.wrap_i64]
  omega
theorem bit_test (q y : Nat) (hq : q < 32) : (bits BinOp.and IntKind.i64 ((q : Int) / 2 ^ y) 1 == 1) = q.testBit y := by
  have h1 : ((q : Int) / 2 ^ y) = ((q / 2 ^ y : Nat) : Int) := by rw [Int.natCast_ediv, Int.natCast_pow]; rfl
  have h2 : q / 2 ^ y ≤ q := Nat.div_le_self _ _
  rw [h1, show (1 : Int) = ((1 : Nat) : Int) from rfl, i64_and_nat _ _ (by omega) (by omega), Nat.and_one_is_mod, Nat.testBit_eq_decide_div_mod_eq, Bool.eq_iff_iff]
  simp
  omega
theorem bit_set (q y : Nat) (hq : q < 32) (hy : y < 5) : bits BinOp.or IntKind.i64 (q : Int) (wrap64 (2 ^ y)) = ((q ||| 2 ^ y : Nat) : Int) := by
  have h1 : 2 ^ y < 32 := Nat.pow_lt_pow_right (n := 5) (by omega) hy
  have h2 : wrap64 ((2 : Int) ^ y) = ((2 ^ y : Nat) : Int) := by
    have : ((2 : Int) ^ y) = ((2 ^ y : Nat) : Int) := by rw [Int.natCast_pow]; rfl
    have key : ∀ p : Nat, p < 32 → wrap64 (p : Int) = p := fun p hp => IntWalk.wrap64_in _ ⟨by omega, by omega⟩
    rw [this]
    exact key _ h1
  rw [h2, i64_or_nat _ _ (by omega) (by omega)]

set_option maxHeartbeats 1600000 in
theorem orderValid_impl (A A' : Option Addr) (n c m c' : Nat) (xs : List T) (o : List Int) (w : World) (h : RdT w A n c xs) (h' : RdI w A' m c' o) :
    Calls Try.prog 25 #[.slice A n c, .slice A' m c'] w fun e w' => e = .returned (.bool (ordB xs o)) ∧ Below w.heap.size w w' := by
  have hm : n ≤ maxLen := Nat.le_trans h.cap h.max
  unfold maxLen at hm
  have hm' : m ≤ maxLen := Nat.le_trans h'.cap h'.max
  unfold maxLen at hm'
  have HV := Lib.hid (setValid_impl A n c xs w h)
  cases hs : svB xs
  · have HB := Lib.hid (ordB_no1 (o := o) hs)
    rw [hs] at HV
    clear h h' hs
    go_enter Try.func25, Try.ntmps25
    go_wp2_with fail
    refine HV.out.mono ?_
    rintro e w1 ⟨rfl, hb1⟩
    go_wp2
    go_ret
    exact ⟨ret_bool HB.out.symm, hb1⟩
  · rw [hs] at HV
    have HO := Lib.hid (ordB_of (o := o) h.len hs)
    by_cases hmn : m = n
    · subst hmn
      have hne : ((m : Int) != m) = false := by simp
      have h5 : m ≤ 5 := by
        have h6 : xs.length ≤ 5 := by simp only [svB, Bool.and_eq_true, decide_eq_true_eq] at hs; exact hs.1
        have := h.len; omega
      clear h hs
      go_enter Try.func25, Try.ntmps25
      go_wp2_with fail
      refine HV.out.mono ?_
      rintro e w1 ⟨rfl, hb1⟩
      go_wp2
      go_loopw [5, 20] (fun s i wr => ∃ k q : Nat, k ≤ m ∧ i = .int .i64 k ∧ s = .int .i64 q ∧ Seen q (o.take k) ∧ preOrd m (o.take k) ∧ Below w.heap.size w wr) (fun _ i _ => m - (intOf i).toNat)
      case atStart => exact ⟨0, 0, Nat.zero_le _, rfl, rfl, Seen.zero, preOrd_nil _, hb1⟩
      case round =>
        obtain ⟨k, q, hk, rfl, rfl, hseen, hpre, hbel⟩ := hrel
        have hr := h'.below hbel
        by_cases hlt : k < m
        · obtain ⟨b, off, x, rfl, hx, hb, c0⟩ := hr.intAt hlt
          have Hx := Lib.hid hx
          have Hpre := Lib.hid hpre
          have Hseen := Lib.hid hseen
          have hq : q < 32 := hseen.1
          clear hx hr h' hpre hseen
          by_cases hx0 : 0 ≤ x
          · by_cases hx1 : x < m
            · obtain ⟨y, rfl⟩ := Int.eq_ofNat_of_zero_le hx0
              have hy : y < m := by omega
              have hy0 : (0 : Int) ≤ (y : Int) := by omega
              have hy5 : (y : Int) < 64 := by omega
              by_cases hin : (y : Int) ∈ o.take k
              · have hbit : (bits BinOp.and IntKind.i64 ((q : Int) / 2 ^ y) 1 == 1) = true := by rw [bit_test q y hq]; exact (Hseen.out.2 y (by omega)).2 hin
                have HB := Lib.hid (HO.out.trans (isOrd_twice Hx.out hin))
                clear hin
                go_wp2
                go_ret
                exact ⟨ret_bool HB.out.symm, hbel⟩
              · have hbit : (bits BinOp.and IntKind.i64 ((q : Int) / 2 ^ y) 1 == 1) = false := by rw [bit_test q y hq, Bool.eq_false_iff]; exact fun e => hin ((Hseen.out.2 y (by omega)).1 e)
                have Hin := Lib.hid hin
                clear hin
                go_wp2
                go_roundw
                case rel => exact ⟨k + 1, q ||| 2 ^ y, by omega, by go_num, by rw [bit_set q y hq (by omega)], Hseen.out.add Hx.out (by omega), preOrd_succ Hpre.out Hx.out hy0 (by omega) Hin.out, hbel⟩
                case measure => simp [intOf]; omega
            · have HB := Lib.hid (HO.out.trans (isOrd_out Hx.out (fun e => hx1 e.2)))
              go_wp2
              go_ret
              exact ⟨ret_bool HB.out.symm, hbel⟩
          · have HB := Lib.hid (HO.out.trans (isOrd_out Hx.out (fun e => hx0 e.1)))
            go_wp2
            go_ret
            exact ⟨ret_bool HB.out.symm, hbel⟩
        · have hkn : k = m := by omega
          have HB := Lib.hid (HO.out.trans (isOrd_yes h'.len hkn hpre))
          subst hkn
          clear hr h' hpre hseen
          go_wp2
          go_ret
          exact ⟨ret_bool HB.out.symm, hbel⟩
    · have hne : ((m : Int) != n) = true := by simp; omega
      have HB := Lib.hid (HO.out.trans (isOrd_len (by rw [h'.len]; exact hmn)))
      clear h h' hs
      go_enter Try.func25, Try.ntmps25
      go_wp2_with fail
      refine HV.out.mono ?_
      rintro e w1 ⟨rfl, hb1⟩
      go_wp2
      go_ret
      exact ⟨ret_bool HB.out.symm, hb1⟩

theorem infoBool : (Try.prog.info? 4).map (fun i => (i.zero, i.size, i.bytes)) = some (some (.bool false), 1, 1) := by kernel_rfl

/-- the marks of the reference: cell j is true where j was seen -/
def Marks (L : List Value) (n : Nat) (o : List Int) : Prop := ∀ j : Nat, j < n → L[j]? = some (.bool (decide ((j : Int) ∈ o)))

theorem Marks.zero (n : Nat) : Marks (madeCells #[.bool false] n).toList n [] := fun j hj => by
  rw [toList_madeCells_one, List.getElem?_replicate, if_pos hj]; simp
theorem Marks.add {L : List Value} {n k x : Nat} {o : List Int} (h : Marks L n (o.take k)) (hx : o[k]? = some (x : Int)) (hl : L.length = n) (hxn : x < n) : Marks (L.set x (.bool true)) n (o.take (k + 1)) := fun j hj => by
  rw [take_succ_of hx, List.getElem?_set]
  by_cases e : x = j
  · subst e
    rw [if_pos rfl, if_pos (by omega)]
    simp
  · rw [if_neg e, h j hj]
    have e' : ¬ ((j : Int) = (x : Int)) := by omega
    simp [e']



end Go.Proofs.Ytcgjifklapaeeaa
