/- Plain facts for the laws on shares, factors and virtual deadlines: what is no greater than what. Condition: the tasks are valid. -/
import Derived.Test.YtdafioafbgkilaaL5D
namespace Go.Proofs.Ytdafioafbgkilaa
set_option linter.unusedVariables false

theorem le_lo_hi {xs : List T} (h : svB xs = true) : loB xs ≤ hiH xs := by
  have hv := (sv_all h).2
  unfold loB hiH
  clear h
  induction xs with
  | nil => simp [sc]
  | cons t ts ih =>
    rw [sc_cons, sc_cons]
    have h1 := ih (fun u hu => hv u (by simp [hu]))
    have h2 : sc1 true T.low t ≤ sc1 true T.high t := by
      unfold sc1
      split
      · have := (tvB_iff t).1 (hv t (by simp))
        have h3 := tv_every (hv t (by simp))
        exact Int.mul_le_mul_of_nonneg_right (by omega) (Int.ediv_nonneg (by decide) (by omega))
      · omega
    omega
theorem loadV_eq {xs : List T} (hs : svB xs = true) : loadV xs = red (if loA xs + loB xs < hiH xs then hiH xs else loA xs + loB xs) LL := by
  simp only [loadV, hs, if_true]
  split <;> rfl
theorem load_is {xs : List T} (hs : svB xs = true) : isShare (loadV xs) := by
  by_cases hx : loA xs + loB xs < hiH xs
  · rw [loadV_1 hs hx]; exact shr_is nd_high hs
  · rw [loadV_2 hs hx]; exact plusV_is (shr_sm nd_low hs) (shr_sm nd_low hs) (plus_sm hs nd_low nd_low)
theorem cmp_red_le {a b c d : Int} (ha : 0 ≤ a) (hb : 1 ≤ b) (hc : 0 ≤ c) (hd : 1 ≤ d) (h : a * d ≤ c * b) : decide (cmpI ((red a b).num * (red c d).den) ((red c d).num * (red a b).den) ≤ 0) = true := by
  rw [cmp_le]
  exact decide_eq_true ((red_le ha hb hc hd).2 h)
theorem cmp_red_one {a b : Int} (ha : 0 ≤ a) (hb : 1 ≤ b) (h : a ≤ b) : decide (cmpI ((red a b).num * 1) (1 * (red a b).den) ≤ 0) = true := by
  rw [cmp_le, Int.mul_one, Int.one_mul]
  have := fits_red ha hb
  rw [decide_eq_true h] at this
  exact this
/-- the sum of the low shares, in the laws' order -/
theorem sum_eq {xs : List T} (h : svB xs = true) : plusV (shr true T.low xs) (shr false T.low xs) = red (loA xs + loB xs) LL := by
  rw [plusV_comm, plus_shr h nd_low nd_low]; rfl
theorem sum_sm {xs : List T} (h : svB xs = true) : Sm (plusV (shr true T.low xs) (shr false T.low xs)) := by
  rw [plusV_comm]; exact plus_sm h nd_low nd_low
theorem sum_is {xs : List T} (h : svB xs = true) : isShare (plusV (shr true T.low xs) (shr false T.low xs)) :=
  plusV_is (shr_sm nd_low h) (shr_sm nd_low h) (sum_sm h)
theorem low_le_load {xs : List T} (h : svB xs = true) : decide (cmpI ((plusV (shr true T.low xs) (shr false T.low xs)).num * (loadV xs).den) ((loadV xs).num * (plusV (shr true T.low xs) (shr false T.low xs)).den) ≤ 0) = true := by
  have hn := low_nonneg h
  have hL := LL_pos
  rw [sum_eq h, loadV_eq h]
  refine cmp_red_le (by omega) hL ?_ hL ?_
  · split <;> omega
  · exact Int.mul_le_mul_of_nonneg_right (by split <;> omega) (by omega)
theorem high_le_load {xs : List T} (h : svB xs = true) : decide (cmpI ((shr true T.high xs).num * (loadV xs).den) ((loadV xs).num * (shr true T.high xs).den) ≤ 0) = true := by
  have hn := low_nonneg h
  have hL := LL_pos
  rw [shr_sc nd_high h, loadV_eq h]
  refine cmp_red_le hn.2.2 hL ?_ hL ?_
  · split <;> omega
  · exact Int.mul_le_mul_of_nonneg_right (by show hiH xs ≤ _; split <;> omega) (by omega)
theorem fact_is {xs : List T} (h : factB xs = true) : isShare (factV xs) := by
  obtain ⟨⟨a, b, c, d⟩, e⟩ := factV_sm h
  exact ⟨a, b, c, d, e⟩
/-- the factor as a fraction of small numbers -/
theorem fact_red {xs : List T} (h : factB xs = true) : ∃ a b : Int, factV xs = red a b ∧ 0 ≤ a ∧ 1 ≤ b ∧ a ≤ b ∧ loB xs * b ≤ a * LL ∧ (0 < loB xs → 1 ≤ a) ∧ (factV xs = ⟨1, 1⟩ ↔ plainB xs = true ∨ loA xs + loB xs = LL) := by
  have hs := imp_sv (fact_imp h)
  have hn := low_nonneg hs
  have hl := le_lo_hi hs
  have hL := LL_pos
  cases hp : plainB xs
  · obtain ⟨h1, h2, h3⟩ := fact_lt h hp
    refine ⟨loB xs, LL - loA xs, h3, hn.2.1, by omega, by omega, ?_, fun h0 => by omega, ?_⟩
    · exact Int.mul_le_mul_of_nonneg_left (by omega) hn.2.1
    · rw [h3, red_is_one hn.2.1 (by omega)]
      constructor
      · intro e; right; omega
      · rintro (e | e)
        · cases e
        · omega
  · have hpl : loA xs + hiH xs ≤ LL := by
      have := hp
      unfold plainB at this
      rw [Bool.and_eq_true, decide_eq_true_eq] at this
      exact this.2
    have e := (factB_2 (plain_imp hp) hp).2
    refine ⟨1, 1, by rw [e, red_one], by omega, by omega, by omega, by omega, fun _ => by omega, by simp [e]⟩
theorem fact_le_one {xs : List T} (h : factB xs = true) : decide (cmpI ((factV xs).num * 1) (1 * (factV xs).den) ≤ 0) = true := by
  obtain ⟨a, b, e, h1, h2, h3, _⟩ := fact_red h
  rw [e]
  exact cmp_red_one h1 h2 h3
theorem low_le_fact {xs : List T} (h : factB xs = true) : decide (cmpI ((shr true T.low xs).num * (factV xs).den) ((factV xs).num * (shr true T.low xs).den) ≤ 0) = true := by
  have hs := imp_sv (fact_imp h)
  obtain ⟨a, b, e, h1, h2, h3, h4, _⟩ := fact_red h
  rw [e, shr_sc nd_low hs]
  exact cmp_red_le (low_nonneg hs).2.1 LL_pos h1 h2 h4
theorem sum_one {xs : List T} (h : svB xs = true) : plusV (shr true T.low xs) (shr false T.low xs) = ⟨1, 1⟩ ↔ loA xs + loB xs = LL := by
  have hn := low_nonneg h
  rw [sum_eq h]
  exact red_is_one (by omega) LL_pos
/-- what holds with virtual deadlines -/
theorem virt_fits {xs : List T} (h : virtB xs = true) : impB xs = true ∧ loA xs + loB xs ≤ LL ∧ hiH xs ≤ LL := by
  have hf : factB xs = true := by
    cases hf : factB xs
    · rw [virtB_1 hf] at h; cases h
    · rfl
  have hi := fact_imp hf
  have hs := imp_sv hi
  have hn := low_nonneg hs
  have hl := le_lo_hi hs
  refine ⟨hi, ?_⟩
  cases hp : plainB xs
  · obtain ⟨h1, h2, _⟩ := fact_lt hf hp
    refine ⟨h1, ?_⟩
    unfold virtB at h
    rw [hf, hp, Bool.true_and, Bool.false_or, decide_eq_true_eq] at h
    have h3 : 0 ≤ loB xs * loA xs := Int.mul_nonneg hn.2.1 hn.1
    exact Int.le_of_mul_le_mul_right (show hiH xs * (LL - loA xs) ≤ LL * (LL - loA xs) by omega) (by omega)
  · unfold plainB at hp
    rw [Bool.and_eq_true, decide_eq_true_eq] at hp
    omega
theorem virt_load {xs : List T} (h : virtB xs = true) : decide (cmpI ((loadV xs).num * 1) (1 * (loadV xs).den) ≤ 0) = true := by
  obtain ⟨hi, h1, h2⟩ := virt_fits h
  have hs := imp_sv hi
  have hn := low_nonneg hs
  rw [loadV_eq hs]
  refine cmp_red_one ?_ LL_pos ?_
  · split <;> omega
  · split <;> omega
theorem virt_low {xs : List T} (h : virtB xs = true) : decide (cmpI ((plusV (shr true T.low xs) (shr false T.low xs)).num * 1) (1 * (plusV (shr true T.low xs) (shr false T.low xs)).den) ≤ 0) = true := by
  obtain ⟨hi, h1, h2⟩ := virt_fits h
  have hs := imp_sv hi
  have hn := low_nonneg hs
  rw [sum_eq hs]
  exact cmp_red_one (by omega) LL_pos h1
theorem virt_high {xs : List T} (h : virtB xs = true) : decide (cmpI ((shr true T.high xs).num * 1) (1 * (shr true T.high xs).den) ≤ 0) = true := by
  obtain ⟨hi, h1, h2⟩ := virt_fits h
  have hs := imp_sv hi
  rw [shr_sc nd_high hs]
  exact cmp_red_one (low_nonneg hs).2.2 LL_pos h2
/-- virtual deadlines -/
theorem due_is {x : T} (h : tvB x = true) : isShare ⟨x.due, 1⟩ := by
  obtain ⟨a, b⟩ := due_bd h
  refine ⟨by show 0 ≤ x.due; omega, by show x.due ≤ 1000000000; omega, by show (1 : Int) ≤ 1; omega, by show (1 : Int) ≤ 1000000000; omega, ?_⟩
  show red x.due 1 = ⟨x.due, 1⟩
  simp [red]
theorem due_red {x : T} : red x.due 1 = ⟨x.due, 1⟩ := by simp [red]
theorem vd1_is {xs : List T} {x : T} (h : factB xs = true) (hx : tvB x = true) : isShare (vd1 xs x) := by
  obtain ⟨a, b, c, d⟩ := factV_bd h
  obtain ⟨p, q⟩ := prod_bd h hx
  unfold vd1
  split
  · have := red_num_le p c
    have := red_den_le p c
    exact ⟨red_num0 p c, by omega, red_den1 p c, by omega, red_idem p c⟩
  · exact due_is hx
theorem vd1_le {xs : List T} {x : T} (h : factB xs = true) (hx : tvB x = true) : decide (cmpI ((vd1 xs x).num * 1) (x.due * (vd1 xs x).den) ≤ 0) = true := by
  obtain ⟨f1, f2, f3, f4⟩ := factV_bd h
  obtain ⟨p, q⟩ := prod_bd h hx
  obtain ⟨u, v⟩ := due_bd hx
  have hle : (factV xs).num ≤ (factV xs).den := by
    have := fact_le_one h
    rw [cmp_le, decide_eq_true_eq, Int.mul_one, Int.one_mul] at this
    exact this
  have hc := cmp_red_le (a := (factV xs).num * x.due) (b := (factV xs).den) (c := x.due) (d := 1) p f3 (by omega) (by omega) (by
    have : (factV xs).num * x.due ≤ (factV xs).den * x.due := Int.mul_le_mul_of_nonneg_right hle (by omega)
    rw [Int.mul_one, Int.mul_comm x.due]; exact this)
  rw [due_red] at hc
  unfold vd1
  split
  · exact hc
  · rw [cmp_le, decide_eq_true_eq]
    show x.due * 1 ≤ x.due * 1
    omega
theorem vd1_same {xs : List T} {x : T} (hc : x.crit = false) : cmpI ((vd1 xs x).num * 1) (x.due * (vd1 xs x).den) = 0 := by
  simp [vd1, hc, cmpI]
theorem crit_pos {xs : List T} {x : T} (hv : ∀ t ∈ xs, tvB t = true) (hx : x ∈ xs) (hc : x.crit = true) : 0 < loB xs := by
  unfold loB
  induction xs with
  | nil => cases hx
  | cons t ts ih =>
    rw [sc_cons]
    have ht := hv t (by simp)
    have h0 := sc1_nonneg (c := true) nd_low ht
    have h1 := sc_nonneg (c := true) nd_low (xs := ts) (fun u hu => hv u (by simp [hu]))
    rcases List.mem_cons.1 hx with rfl | hm
    · have h2 := (tvB_iff x).1 ht
      have h3 := tv_every ht
      have h4 := LL_div h3.1 h3.2
      have h5 : 1 ≤ LL / x.every := by
        rcases Int.lt_or_le (LL / x.every) 1 with h6 | h6
        · have h7 : 0 ≤ LL / x.every := Int.ediv_nonneg (by decide) (by omega)
          have h8 : LL / x.every = 0 := by omega
          rw [h8] at h4
          have := LL_pos
          omega
        · exact h6
      have h9 : sc1 true T.low x = x.low * (LL / x.every) := by simp [sc1, hc]
      have := mul_ge_one (show 1 ≤ x.low by omega) h5
      omega
    · have := ih (fun u hu => hv u (by simp [hu])) hm
      omega
theorem vd1_order {xs : List T} {x y : T} (h : factB xs = true) (hx : x ∈ xs) (hy : y ∈ xs) (hc : x.crit = y.crit) : decide (cmpI ((vd1 xs x).num * (vd1 xs y).den) ((vd1 xs y).num * (vd1 xs x).den) < 0) = decide (x.due < y.due) := by
  have hv := (sv_all (imp_sv (fact_imp h))).2
  have hxv := hv x hx
  have hyv := hv y hy
  rw [cmp_lt]
  cases hcx : x.crit
  · rw [hcx] at hc
    simp [vd1, hcx, ← hc]
  · rw [hcx] at hc
    obtain ⟨f1, f2, f3, f4⟩ := factV_bd h
    obtain ⟨p, q⟩ := prod_bd h hxv
    obtain ⟨p', q'⟩ := prod_bd h hyv
    have e1 : vd1 xs x = red ((factV xs).num * x.due) (factV xs).den := by simp [vd1, hcx]
    have e2 : vd1 xs y = red ((factV xs).num * y.due) (factV xs).den := by simp [vd1, ← hc]
    rw [e1, e2]
    have hnum : 1 ≤ (factV xs).num := by
      obtain ⟨a, b, e, h1, h2, _, _, h6, _⟩ := fact_red h
      have ha := h6 (crit_pos hv hx hcx)
      have hsame := red_same h1 h2
      rcases Int.lt_or_le (red a b).num 1 with hlt | hle
      · have h0 := red_num0 h1 h2
        have hz : (red a b).num = 0 := by omega
        rw [hz, Int.zero_mul] at hsame
        have := mul_ge_one ha (red_den1 h1 h2)
        omega
      · rw [e]; exact hle
    rw [decide_eq_decide, red_lt p f3 p' f3]
    constructor
    · intro hl
      have h1 := Int.lt_of_mul_lt_mul_right hl (by omega)
      exact Int.lt_of_mul_lt_mul_left h1 (by omega)
    · intro hl
      exact Int.mul_lt_mul_of_pos_right (Int.mul_lt_mul_of_pos_left hl (by omega)) (by omega)

end Go.Proofs.Ytdafioafbgkilaa
