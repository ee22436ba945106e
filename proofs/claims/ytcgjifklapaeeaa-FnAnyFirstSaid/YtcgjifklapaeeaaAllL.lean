/- Plain laws on all orders: how many there are, which comes first, turned lists, and that AssignOrder finds an order exactly if one holds. Condition: the tasks are valid; some of them: at most four tasks. -/
import Derived.Test.YtcgjifklapaeeaaAll
import Derived.Test.YtcgjifklapaeeaaAsgL
namespace Go.Proofs.Ytcgjifklapaeeaa
set_option linter.unusedVariables false

def facN : Nat → Nat
  | 0 => 1
  | 1 => 1
  | k + 2 => facN (k + 1) * (k + 2)
theorem all4_len : ∀ n : Nat, n ≤ 4 → (allO n n []).length = facN n := by
  intro n hn
  have : n = 0 ∨ n = 1 ∨ n = 2 ∨ n = 3 ∨ n = 4 := by omega
  rcases this with rfl | rfl | rfl | rfl | rfl <;> decide +kernel
theorem all4_head : ∀ n : Nat, n ≤ 4 → (allO n n []).head? = some (natI n) := by
  intro n hn
  have : n = 0 ∨ n = 1 ∨ n = 2 ∨ n = 3 ∨ n = 4 := by omega
  rcases this with rfl | rfl | rfl | rfl | rfl <;> decide +kernel
def flipO (n : Nat) (o : List Int) : List Int := o.map (fun i => (n : Int) - 1 - i)
theorem all4_flip : ∀ n : Nat, n ≤ 4 → (allO n n []).isPerm ((allO n n []).map (flipO n)) = true := by
  intro n hn
  have : n = 0 ∨ n = 1 ∨ n = 2 ∨ n = 3 ∨ n = 4 := by omega
  rcases this with rfl | rfl | rfl | rfl | rfl <;> decide +kernel
/-- the last two turned -/
def swapO (o : List Int) : List Int := o.take (o.length - 2) ++ [(o[o.length - 1]?).getD 0, (o[o.length - 2]?).getD 0]
def swapChk (n : Nat) : Bool := (List.range (allO n n []).length).all fun i => match (allO n n [])[i]? with
  | some o => decide ((o[n - 2]?).getD 0 < (o[n - 1]?).getD 0) || ((allO n n []).take i).contains (swapO o)
  | none => true
theorem all4_swap : ∀ n : Nat, 2 ≤ n → n ≤ 4 → swapChk n = true := by
  intro n h2 hn
  have : n = 2 ∨ n = 3 ∨ n = 4 := by omega
  rcases this with rfl | rfl | rfl <;> decide +kernel

theorem cnt_pos {xs : List T} : 0 < cntV xs ↔ (anyV xs).isSome = true := by
  cases hs : svB xs
  · rw [cntV_no hs, anyV_no hs]; simp
  · rw [cntV_yes hs rfl, anyV_yes hs rfl, List.countP_pos_iff, List.find?_isSome]
theorem cnt_most {xs : List T} {n : Nat} (hl : xs.length = n) (hn : n ≤ 4) : cntV xs ≤ facN n := by
  cases hs : svB xs
  · rw [cntV_no hs]; exact Nat.zero_le _
  · rw [cntV_yes hs hl, ← all4_len n hn]; exact List.countP_le_length
theorem putL_natI {xs : List T} {n : Nat} (hl : xs.length = n) : putL xs (natI n) = xs := putL_nat hl
theorem isOrd_natI (n : Nat) : isOrd n (natI n) = true := (isOrd_iff _ _).2 ⟨natI_len n, fun x hx => natI_in x hx, natI_nodup n⟩
theorem both_sv {xs : List T} (h : bothB xs = true) : svB xs = true := (bothB_iff.1 h).1
theorem cnt_both {xs : List T} (h : bothB xs = true) : 0 < cntV xs := by
  rw [cntV_yes (both_sv h) rfl, List.countP_pos_iff]
  exact ⟨natI xs.length, all_ord.2 (isOrd_natI _), by unfold okO; rw [putL_natI rfl]; exact h⟩
theorem any_ord {xs : List T} {o : List Int} (h : anyV xs = some o) : ordB xs o = true ∧ okO xs o = true := by
  cases hs : svB xs
  · rw [anyV_no hs] at h; cases h
  · rw [anyV_yes hs rfl] at h
    refine ⟨?_, List.find?_some h⟩
    rw [ordB_of rfl hs]
    exact all_ord.1 (List.mem_of_find?_eq_some h)
theorem any_len {xs : List T} {o : List Int} (h : anyV xs = some o) : o.length = xs.length := (ordB_in (any_ord h).1).1
theorem any_self {xs : List T} {n : Nat} (hl : xs.length = n) (hn : n ≤ 4) (h : bothB xs = true) : anyV xs = some (natI n) := by
  rw [anyV_yes (both_sv h) hl]
  have h1 := all4_head n hn
  cases hA : allO n n [] with
  | nil => rw [hA] at h1; cases h1
  | cons o os =>
    rw [hA] at h1
    simp only [List.head?_cons, Option.some.injEq] at h1
    subst h1
    rw [List.find?_cons_of_pos]
    unfold okO; rw [putL_natI hl]; exact h
theorem putL_flip {xs : List T} {n : Nat} (hl : xs.length = n) {o : List Int} (ho : isOrd n o = true) : putL xs.reverse (flipO n o) = putL xs o := by
  have hin := ((isOrd_iff _ _).1 ho).2.1
  unfold putL flipO
  rw [List.map_map]
  apply List.map_congr_left
  intro i hi
  obtain ⟨h0, h1⟩ := hin i hi
  obtain ⟨j, rfl⟩ := Int.eq_ofNat_of_zero_le h0
  have e : ((n : Int) - 1 - (j : Int)).toNat = n - 1 - j := by omega
  show (xs.reverse[((n : Int) - 1 - (j : Int)).toNat]?).getD default = (xs[j]?).getD default
  rw [e, List.getElem?_reverse (by omega)]
  congr 2
  omega
theorem cnt_rev {xs : List T} {n : Nat} (hl : xs.length = n) (hn : n ≤ 4) (hs : svB xs = true) : cntV xs.reverse = cntV xs := by
  have hs' : svB xs.reverse = true := sv_perm (List.reverse_perm xs).symm hs
  rw [cntV_yes hs hl, cntV_yes hs' (n := n) (by rw [List.length_reverse]; exact hl)]
  have hp := List.isPerm_iff.1 (all4_flip n hn)
  rw [hp.countP_eq (okO xs.reverse), List.countP_map]
  apply List.countP_congr
  intro o ho
  have := putL_flip hl (all_ord.1 ho)
  simp only [Function.comp, okO, this]
theorem any_swap {xs : List T} {o : List Int} {n : Nat} (hl : xs.length = n) (h2 : 2 ≤ n) (hn : n ≤ 4) (h : anyV xs = some o) (hlt : ¬ (o[n - 2]?).getD 0 < (o[n - 1]?).getD 0) : ordB xs (swapO o) = true ∧ okO xs (swapO o) = false := by
  have hs : svB xs = true := by
    cases hs : svB xs
    · rw [anyV_no hs] at h; cases h
    · rfl
  rw [anyV_yes hs hl] at h
  obtain ⟨hp, us, bs, hA, hno⟩ := List.find?_eq_some_iff_append.1 h
  have hc := all4_swap n h2 hn
  unfold swapChk at hc
  rw [List.all_eq_true] at hc
  have h1 := hc us.length (by rw [List.mem_range, hA]; simp)
  have e1 : (allO n n [])[us.length]? = some o := by rw [hA]; simp
  have e2 : (allO n n []).take us.length = us := by rw [hA]; simp
  rw [e1, e2] at h1
  simp only [decide_eq_false hlt, Bool.false_or] at h1
  have hm : swapO o ∈ us := List.elem_iff.1 h1
  refine ⟨?_, ?_⟩
  · rw [ordB_of hl hs]
    exact all_ord.1 (by rw [hA]; exact List.mem_append_left _ hm)
  · have := hno _ hm
    simpa using this

theorem asgF_ok {xs : List T} : ∀ {m : Nat} {L O R : List Int}, L.length = m → svB (putL xs L) = true → asgF xs m L O = some R → ∃ P, R = P ++ O ∧ P.Perm L ∧ okTo (putL xs P) m := by
  intro m
  induction m with
  | zero =>
    intro L O R hl hs h
    have : L = [] := List.eq_nil_of_length_eq_zero hl
    subst this
    simp only [asgF, Option.some.injEq] at h
    exact ⟨[], by rw [← h]; rfl, List.Perm.refl _, okTo_zero _⟩
  | succ m ih =>
    intro L O R hl hs h
    cases hf : lastFrom (putL xs L) (m + 1) with
    | none => rw [asgF_none hf] at h; cases h
    | some a =>
      have ha := lastFrom_lt hf
      have hv : L[a]? = some (L[a]'(by omega)) := List.getElem?_eq_getElem (by omega)
      rw [asgF_some hf hv] at h
      have hal : a < (putL xs L).length := by rw [putL_len]; omega
      obtain ⟨P, hR, hP, hok⟩ := ih (by rw [List.length_eraseIdx_of_lt (by omega), hl]; rfl) (by rw [putL_erase]; exact sv_sub (List.eraseIdx_sublist _ _) hs) h
      have hPl : P.length = m := by rw [hP.length_eq, List.length_eraseIdx_of_lt (by omega), hl]; rfl
      refine ⟨P ++ [L[a]'(by omega)], by rw [hR]; simp, (List.perm_append_comm.trans (List.Perm.cons _ hP)).trans (cons_erase_any hv).symm, ?_⟩
      have hx : (putL xs L)[a]? = some ((xs[(L[a]'(by omega)).toNat]?).getD default) := by
        unfold putL; rw [List.getElem?_map, hv]; rfl
      have hb := (lastFrom_spec hf).1
      rw [lastB_yes (plB_nat hs hal) hx] at hb
      have he : putL xs (P ++ [L[a]'(by omega)]) = putL xs P ++ [(xs[(L[a]'(by omega)).toNat]?).getD default] := by unfold putL; rw [List.map_append]; rfl
      rw [he]
      have hpl : (putL xs P).length = m := by rw [putL_len, hPl]
      refine okTo_succ (fun j hj => ?_) ?_
      · have h1 := hok j hj
        rw [← endV_take (xs := putL xs P ++ [_]) (m := m) hj, List.take_left' hpl]; exact h1
      · have hxl : (putL xs P ++ [(xs[(L[a]'(by omega)).toNat]?).getD default])[m]? = some ((xs[(L[a]'(by omega)).toNat]?).getD default) := by rw [List.getElem?_append_right (by omega), hpl, Nat.sub_self]; rfl
        rw [endV_of hxl, List.take_left' hpl]
        rw [← hb]
        refine endB_perm _ ?_
        rw [← putL_erase]
        exact hP.map _
theorem asg_ok {xs : List T} {O : List Int} (h : asgV xs = some O) : okO xs O = true := by
  have hs := asg_sv h
  have h0 := h
  rw [← asgV_yes hs rfl] at h
  obtain ⟨P, hR, hP, hok⟩ := asgF_ok (natI_len _) (by rw [putL_nat rfl]; exact hs) h
  rw [List.append_nil] at hR
  subst hR
  unfold okO
  have hp : (putL xs O).Perm xs := (hP.map (fun i : Int => (xs[i.toNat]?).getD default)).trans (List.Perm.of_eq (putL_nat rfl))
  rw [bothB_iff]
  refine ⟨sv_perm hp.symm hs, ?_⟩
  rw [putL_len, asg_len h0]
  exact hok
theorem perm_full {o L : List Int} : o.Nodup → L.Nodup → (∀ x ∈ o, x ∈ L) → o.length = L.length → o.Perm L := by
  induction o generalizing L with
  | nil => intro _ _ _ hl; rw [List.eq_nil_of_length_eq_zero hl.symm]
  | cons x o ih =>
    intro h1 h2 h3 h4
    have hx := h3 x (by simp)
    have h5 := List.perm_cons_erase hx
    refine (List.Perm.cons x (ih (List.nodup_cons.1 h1).2 (h2.erase x) (fun y hy => ?_) ?_)).trans h5.symm
    · have hne : y ≠ x := fun e => (List.nodup_cons.1 h1).1 (e ▸ hy)
      exact (List.mem_erase_of_ne hne).2 (h3 y (by simp [hy]))
    · have := h5.length_eq
      simp only [List.length_cons] at this h4
      omega
theorem put_perm {xs : List T} {o : List Int} (h : ordB xs o = true) : (putL xs o).Perm xs := by
  have h1 : svB xs = true ∧ isOrd xs.length o = true := by simpa [ordB] using h
  have h2 := (isOrd_iff _ _).1 h1.2
  have hp : o.Perm (natI xs.length) := by
    refine perm_full h2.2.2 (natI_nodup _) (fun x hx => ?_) (by rw [natI_len]; exact h2.1)
    obtain ⟨h3, h4⟩ := h2.2.1 x hx
    obtain ⟨j, rfl⟩ := Int.eq_ofNat_of_zero_le h3
    simp only [natI, List.mem_map, List.mem_range]
    exact ⟨j, by omega, rfl⟩
  exact (hp.map _).trans (List.Perm.of_eq (putL_nat rfl))
theorem asg_any (xs : List T) : (asgV xs).isSome = (anyV xs).isSome := by
  cases hs : svB xs
  · rw [asgV_no hs, anyV_no hs]
  · rw [Bool.eq_iff_iff]
    constructor
    · intro h
      obtain ⟨O, hO⟩ := Option.isSome_iff_exists.1 h
      rw [anyV_yes hs rfl, List.find?_isSome]
      refine ⟨O, all_ord.2 ?_, asg_ok hO⟩
      have := asg_order hO
      rw [ordB_of rfl hs] at this
      exact this
    · intro h
      obtain ⟨O, hO⟩ := Option.isSome_iff_exists.1 h
      obtain ⟨h1, h2⟩ := any_ord hO
      rw [asg_iff hs]
      exact ⟨putL xs O, (put_perm h1).symm, (bothB_iff.1 h2).2⟩
end Go.Proofs.Ytcgjifklapaeeaa
