/- Plain facts on all orders of so many numbers, by the first number that differs. No condition. -/
import Derived.Test.YtcgjifklapaeeaaAsg
namespace Go.Proofs.Ytcgjifklapaeeaa
set_option linter.unusedVariables false

/-- all orders of the numbers below n that begin with b, k numbers to come -/
def allO (n : Nat) : Nat → List Int → List (List Int)
  | 0, b => [b]
  | k + 1, b => (natI n).flatMap (fun i => if i ∈ b then [] else allO n k (b ++ [i]))
/-- those whose next number is below j -/
def allTo (n k : Nat) (b : List Int) (j : Nat) : List (List Int) := (natI j).flatMap (fun i => if i ∈ b then [] else allO n k (b ++ [i]))

theorem allTo_zero (n k : Nat) (b : List Int) : allTo n k b 0 = [] := rfl
theorem allTo_in {n k j : Nat} {b : List Int} (h : (j : Int) ∈ b) : allTo n k b (j + 1) = allTo n k b j := by
  simp [allTo, natI_succ, h]
theorem allTo_out {n k j : Nat} {b : List Int} (h : (j : Int) ∉ b) : allTo n k b (j + 1) = allTo n k b j ++ allO n k (b ++ [(j : Int)]) := by
  simp [allTo, natI_succ, h]
theorem allTo_end (n k : Nat) (b : List Int) : allTo n k b n = allO n (k + 1) b := rfl
theorem flat_len_le {α β : Type} (f : α → List β) (m : Nat) : ∀ xs : List α, (∀ x ∈ xs, (f x).length ≤ m) → (xs.flatMap f).length ≤ xs.length * m := by
  intro xs
  induction xs with
  | nil => intro _; simp
  | cons x xs ih =>
    intro h
    rw [List.flatMap_cons, List.length_append, List.length_cons, Nat.add_mul, Nat.one_mul]
    have h1 := h x (by simp)
    have h2 := ih (fun y hy => h y (by simp [hy]))
    omega
theorem allO_le (n : Nat) : ∀ (k : Nat) (b : List Int), (allO n k b).length ≤ n ^ k := by
  intro k
  induction k with
  | zero => intro b; simp [allO]
  | succ k ih =>
    intro b
    rw [Nat.pow_succ, Nat.mul_comm]
    have := flat_len_le (fun i => if i ∈ b then [] else allO n k (b ++ [i])) (n ^ k) (natI n) (fun i _ => by
      by_cases hi : i ∈ b
      · simp [hi]
      · simp only [if_neg hi]; exact ih _)
    rw [natI_len] at this
    exact this
theorem allTo_le {n k j : Nat} {b : List Int} (hj : j ≤ n) : (allTo n k b j).length ≤ n ^ (k + 1) := by
  rw [Nat.pow_succ, Nat.mul_comm]
  have := flat_len_le (fun i => if i ∈ b then [] else allO n k (b ++ [i])) (n ^ k) (natI j) (fun i _ => by
    by_cases hi : i ∈ b
    · simp [hi]
    · simp only [if_neg hi]; exact allO_le _ _ _)
  rw [natI_len] at this
  exact Nat.le_trans this (Nat.mul_le_mul_right _ hj)
theorem pow5_le {n k : Nat} (hn : n ≤ 5) (hk : k ≤ 5) : n ^ k ≤ 3125 :=
  Nat.le_trans (Nat.pow_le_pow_left hn k) (Nat.le_trans (Nat.pow_le_pow_right (by decide) hk) (by decide : 5 ^ 5 ≤ 3125))
theorem preOrd_snoc {n : Nat} {b : List Int} {j : Nat} (h : preOrd n b) (hj : j < n) (hn : (j : Int) ∉ b) : preOrd n (b ++ [(j : Int)]) := by
  refine ⟨fun y hy => ?_, ?_⟩
  · rw [List.mem_append, List.mem_singleton] at hy
    rcases hy with hy | rfl
    · exact h.1 y hy
    · exact ⟨by omega, by omega⟩
  · rw [List.nodup_append]
    refine ⟨h.2, by simp, fun a ha b hb e => ?_⟩
    rw [List.mem_singleton] at hb
    subst hb; subst e
    exact hn ha
/-- what begins with b and is an order is told -/
theorem allO_iff {n : Nat} : ∀ (k : Nat) (b : List Int), preOrd n b → b.length + k = n → ∀ o, (o ∈ allO n k b ↔ b <+: o ∧ isOrd n o = true) := by
  intro k
  induction k with
  | zero =>
    intro b hb hl o
    simp only [allO, List.mem_singleton]
    constructor
    · rintro rfl
      exact ⟨List.prefix_refl _, (isOrd_iff _ _).2 ⟨hl, hb⟩⟩
    · rintro ⟨h1, h2⟩
      exact (h1.eq_of_length (by rw [((isOrd_iff _ _).1 h2).1]; omega)).symm
  | succ k ih =>
    intro b hb hl o
    simp only [allO, List.mem_flatMap]
    constructor
    · rintro ⟨i, hi, ho⟩
      by_cases hib : i ∈ b
      · simp [hib] at ho
      · rw [if_neg hib] at ho
        obtain ⟨h0, h1⟩ := natI_in i hi
        obtain ⟨j, rfl⟩ := Int.eq_ofNat_of_zero_le h0
        have := (ih (b ++ [(j : Int)]) (preOrd_snoc hb (by omega) hib) (by simp; omega) o).1 ho
        exact ⟨(List.prefix_append b [(j : Int)]).trans this.1, this.2⟩
    · rintro ⟨⟨t, rfl⟩, h2⟩
      have hO := (isOrd_iff _ _).1 h2
      cases t with
      | nil => exfalso; have := hO.1; simp at this; omega
      | cons i t =>
        have hi := hO.2.1 i (by simp)
        obtain ⟨j, rfl⟩ := Int.eq_ofNat_of_zero_le hi.1
        have hib : (j : Int) ∉ b := fun hm => by
          have := hO.2.2
          rw [List.nodup_append] at this
          exact this.2.2 _ hm _ (by simp) rfl
        refine ⟨(j : Int), ?_, ?_⟩
        · simp only [natI, List.mem_map, List.mem_range]
          exact ⟨j, by omega, rfl⟩
        · rw [if_neg hib]
          exact (ih (b ++ [(j : Int)]) (preOrd_snoc hb (by omega) hib) (by simp; omega) _).2 ⟨⟨t, by simp⟩, h2⟩
theorem all_ord {n : Nat} {o : List Int} : o ∈ allO n n [] ↔ isOrd n o = true := by
  rw [allO_iff n [] (preOrd_nil n) (by simp) o]
  exact ⟨fun h => h.2, fun h => ⟨List.nil_prefix, h⟩⟩

/-- telling orders to a listener until it says stop -/
def foldO {σ : Type} (step : σ → List Int → σ × Bool) : σ → List (List Int) → σ × Bool
  | s, [] => (s, true)
  | s, o :: os => if (step s o).2 = true then foldO step (step s o).1 os else ((step s o).1, false)
theorem foldO_one {σ : Type} (step : σ → List Int → σ × Bool) (s : σ) (o : List Int) : foldO step s [o] = step s o := by
  generalize hq : step s o = q
  obtain ⟨a, b⟩ := q
  cases b <;> simp [foldO, hq]
theorem foldO_go {σ : Type} {step : σ → List Int → σ × Bool} : ∀ {us bs : List (List Int)} {s : σ}, (foldO step s us).2 = true → foldO step s (us ++ bs) = foldO step (foldO step s us).1 bs := by
  intro us
  induction us with
  | nil => intro bs s _; rfl
  | cons a us ih =>
    intro bs s h
    rw [List.cons_append]
    cases hc : (step s a).2
    · simp [foldO, hc] at h
    · simp only [foldO, hc, if_true] at h ⊢
      exact ih h
theorem foldO_stop {σ : Type} {step : σ → List Int → σ × Bool} : ∀ {us bs : List (List Int)} {s : σ}, (foldO step s us).2 = false → foldO step s (us ++ bs) = foldO step s us := by
  intro us
  induction us with
  | nil => intro bs s h; cases h
  | cons a us ih =>
    intro bs s h
    rw [List.cons_append]
    cases hc : (step s a).2
    · simp [foldO, hc]
    · simp only [foldO, hc, if_true] at h ⊢
      exact ih h

/-- the orders that hold -/
def okO (xs : List T) (o : List Int) : Bool := bothB (putL xs o)
def anyV (xs : List T) : Option (List Int) := if svB xs = true then (allO xs.length xs.length []).find? (okO xs) else none
def cntV (xs : List T) : Nat := if svB xs = true then (allO xs.length xs.length []).countP (okO xs) else 0
theorem anyV_no {xs : List T} (h : svB xs = false) : anyV xs = none := by simp [anyV, h]
theorem anyV_yes {xs : List T} {n : Nat} (h : svB xs = true) (hl : xs.length = n) : anyV xs = (allO n n []).find? (okO xs) := by simp [anyV, h, hl]
theorem cntV_no {xs : List T} (h : svB xs = false) : cntV xs = 0 := by simp [cntV, h]
theorem cntV_yes {xs : List T} {n : Nat} (h : svB xs = true) (hl : xs.length = n) : cntV xs = (allO n n []).countP (okO xs) := by simp [cntV, h, hl]
def cntStep (xs : List T) (s : Nat) (o : List Int) : Nat × Bool := (s + (if okO xs o = true then 1 else 0), true)
theorem foldO_cnt (xs : List T) : ∀ (L : List (List Int)) (s : Nat), foldO (cntStep xs) s L = (s + L.countP (okO xs), true) := by
  intro L
  induction L with
  | nil => intro s; simp [foldO]
  | cons o L ih =>
    intro s
    simp only [foldO, cntStep, if_true]
    rw [ih (s + (if okO xs o = true then 1 else 0)), List.countP_cons]
    congr 1
    omega
def anyStep (xs : List T) (s : Option (List Int)) (o : List Int) : Option (List Int) × Bool := if okO xs o = true then (some o, false) else (s, s.isNone)
theorem foldO_any (xs : List T) : ∀ (L : List (List Int)), foldO (anyStep xs) none L = (L.find? (okO xs), (L.find? (okO xs)).isNone) := by
  intro L
  induction L with
  | nil => rfl
  | cons o L ih =>
    cases h : okO xs o
    · have e : foldO (anyStep xs) none (o :: L) = foldO (anyStep xs) none L := by simp [foldO, anyStep, h]
      rw [e, ih, List.find?_cons_of_neg (by simp [h])]
    · rw [List.find?_cons_of_pos (by simp [h])]; simp [foldO, anyStep, h]
end Go.Proofs.Ytcgjifklapaeeaa
