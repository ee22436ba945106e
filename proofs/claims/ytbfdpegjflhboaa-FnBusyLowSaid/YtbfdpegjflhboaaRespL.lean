/- Plain facts on responses in lists: by place, at the switch, busy times, which tasks hold. No condition but that the tasks are valid. -/
import Derived.Test.YtbfdpegjflhboaaResp
import Derived.Test.YtbfdpegjflhboaaHyper
import Derived.Test.YtbfdpegjflhboaaPlaced
namespace Go.Proofs.Ytbfdpegjflhboaa
set_option linter.unusedVariables false

def atT (xs : List T) (k : Nat) : T := (xs[k]?).getD default
theorem atT_of {xs : List T} {k : Nat} {x : T} (h : xs[k]? = some x) : atT xs k = x := by simp [atT, h]
theorem atT_get {xs : List T} {k : Nat} (h : k < xs.length) : xs[k]? = some (atT xs k) := by simp [atT, h]
def rlV (xs : List T) (i : Int) : Option Int := if plB xs i = true then rlo (xs.take i.toNat) (atT xs i.toNat) else none
def rsV (xs : List T) (i : Int) : Option Int := if plB xs i = true then rsw (xs.take i.toNat) (atT xs i.toNat) else none
def rhV (xs : List T) (i : Int) : Option Int := if plB xs i = true ∧ (atT xs i.toNat).crit = true then rlV (critL xs) ((critL (xs.take i.toNat)).length : Int) else none
def endV (xs : List T) (k : Nat) : Bool := endB (xs.take k) (atT xs k)
def bothB (xs : List T) : Bool := svB xs && (List.range xs.length).all (fun k => endV xs k)
def lowsB (xs : List T) : Bool := svB xs && (List.range xs.length).all (fun k => (rlV xs k).isSome)
def badV (xs : List T) : Option Nat := if svB xs = true then (List.range xs.length).find? (fun k => !endV xs k) else none
def busyV (xs : List T) : Option Int := if svB xs = true ∧ xs ≠ [] then riseAt (respF 0 gLow xs) (hyI xs) 1 else none

theorem plB_nat {xs : List T} {k : Nat} (h : svB xs = true) (hk : k < xs.length) : plB xs (k : Int) = true := (plB_iff _ _).2 ⟨h, by omega, by omega⟩
theorem rlV_no {xs : List T} {i : Int} (h : plB xs i = false) : rlV xs i = none := by simp [rlV, h]
theorem rsV_no {xs : List T} {i : Int} (h : plB xs i = false) : rsV xs i = none := by simp [rsV, h]
theorem rhV_no {xs : List T} {i : Int} (h : plB xs i = false) : rhV xs i = none := by simp [rhV, h]
theorem rlV_yes {xs : List T} {k : Nat} {x : T} (h : plB xs (k : Int) = true) (hx : xs[k]? = some x) : rlV xs (k : Int) = rlo (xs.take k) x := by
  simp [rlV, h, atT_of hx]
theorem rsV_yes {xs : List T} {k : Nat} {x : T} (h : plB xs (k : Int) = true) (hx : xs[k]? = some x) : rsV xs (k : Int) = rsw (xs.take k) x := by
  simp [rsV, h, atT_of hx]
theorem rhV_yes {xs : List T} {k : Nat} {x : T} (h : plB xs (k : Int) = true) (hx : xs[k]? = some x) (hc : x.crit = true) : rhV xs (k : Int) = rlV (critL xs) ((critL (xs.take k)).length : Int) := by
  simp [rhV, h, atT_of hx, hc]
theorem rhV_low {xs : List T} {k : Nat} {x : T} (hx : xs[k]? = some x) (hc : x.crit = false) : rhV xs (k : Int) = none := by
  simp [rhV, atT_of hx, hc]
theorem rsw_no {pre : List T} {x : T} (h : rlo pre x = none) : rsw pre x = none := by simp [rsw, h]
theorem rsw_low {pre : List T} {x : T} {l : Int} (h : rlo pre x = some l) (hc : x.crit = false) : rsw pre x = none := by simp [rsw, h, hc]
theorem rsw_yes {pre : List T} {x : T} {l : Int} (h : rlo pre x = some l) (hc : x.crit = true) : rsw pre x = rswF l pre x := by simp [rsw, h, hc]
theorem endV_of {xs : List T} {k : Nat} {x : T} (hx : xs[k]? = some x) : endV xs k = endB (xs.take k) x := by simp [endV, atT_of hx]
theorem endB_hi {pre : List T} {x : T} (hc : x.crit = true) : endB pre x = (rsw pre x).isSome := by simp [endB, hc]
theorem endB_lo {pre : List T} {x : T} (hc : x.crit = false) : endB pre x = (rlo pre x).isSome := by simp [endB, hc]
theorem endV_hi {xs : List T} {k : Nat} {x : T} (h : plB xs (k : Int) = true) (hx : xs[k]? = some x) (hc : x.crit = true) : endV xs k = (rsV xs k).isSome := by
  rw [endV_of hx, endB_hi hc, rsV_yes h hx]
theorem endV_lo {xs : List T} {k : Nat} {x : T} (h : plB xs (k : Int) = true) (hx : xs[k]? = some x) (hc : x.crit = false) : endV xs k = (rlV xs k).isSome := by
  rw [endV_of hx, endB_lo hc, rlV_yes h hx]
theorem hyI_le {xs : List T} (h : svB xs = true) : 1 ≤ hyI xs ∧ hyI xs ≤ 3200000 := by
  have h1 := hyN_bd xs (sv_every h)
  have h2 := pow20_le (sv_each h).1
  simp only [hyI, h, if_true]
  omega
theorem busy_ge {xs : List T} (h : svB xs = true) (hn : xs ≠ []) : (1 : Int) ≤ respF 0 gLow xs 1 := by
  cases xs with
  | nil => exact absurd rfl hn
  | cons t ts =>
    rw [respF_cons]
    have hv := (sv_all h).2
    have h1 := low_ge (base := 0) (w := 1) (by omega) (pre := ts) (fun u hu => hv u (by simp [hu]))
    have h2 := dem_need (hi := false) (hv t (by simp)) (Int.le_refl 1)
    have h3 := (need_bd (hi := false) (hv t (by simp))).1
    show 1 ≤ respF 0 gLow ts 1 + dem false t 1
    omega

/-- the loops over places -/
def okTo (xs : List T) (k : Nat) : Prop := ∀ j, j < k → endV xs j = true
theorem okTo_zero (xs : List T) : okTo xs 0 := fun j hj => by omega
theorem okTo_succ {xs : List T} {k : Nat} (h : okTo xs k) (hk : endV xs k = true) : okTo xs (k + 1) := fun j hj => by
  rcases Nat.lt_succ_iff_lt_or_eq.1 hj with h1 | rfl
  · exact h j h1
  · exact hk
theorem badV_no {xs : List T} (h : svB xs = false) : badV xs = none := by simp [badV, h]
theorem badV_end {xs : List T} {n : Nat} (hl : xs.length = n) (h : okTo xs n) : badV xs = none := by
  unfold badV
  split
  · rw [List.find?_eq_none]
    intro k hk
    rw [List.mem_range] at hk
    simp [h k (by omega)]
  · rfl
theorem badV_at {xs : List T} {k : Nat} (hs : svB xs = true) (h : okTo xs k) (hk : k < xs.length) (hb : endV xs k = false) : badV xs = some k := by
  simp only [badV, hs, if_true]
  rw [List.find?_eq_some_iff_append]
  refine ⟨by simp [hb], List.range k, (List.range (xs.length - k - 1)).map (· + (k + 1)), ?_, fun j hj => by simp [h j (List.mem_range.1 hj)]⟩
  have e : xs.length = k + (1 + (xs.length - k - 1)) := by omega
  conv => lhs; rw [e]
  rw [List.range_add, List.range_add]
  simp
  intro a ha
  omega
theorem badV_some {xs : List T} {k : Nat} (h : badV xs = some k) : svB xs = true ∧ k < xs.length ∧ okTo xs k ∧ endV xs k = false := by
  unfold badV at h
  split at h
  · rename_i hs
    have h1 := List.find?_some h
    have h2 := List.mem_of_find?_eq_some h
    rw [List.mem_range] at h2
    refine ⟨hs, h2, fun j hj => ?_, by simpa using h1⟩
    cases he : endV xs j with
    | true => rfl
    | false =>
      exfalso
      have hmin : ∃ m, m ≤ j ∧ okTo xs m ∧ endV xs m = false := by
        clear h h1 hj
        induction j using Nat.strongRecOn with
        | ind j ih =>
          by_cases hall : okTo xs j
          · exact ⟨j, Nat.le_refl _, hall, he⟩
          · simp only [okTo, Classical.not_forall] at hall
            obtain ⟨i, hi, hi2⟩ := hall
            obtain ⟨m, hm, h3⟩ := ih i hi (by simpa using hi2)
            exact ⟨m, by omega, h3⟩
      obtain ⟨m, hm, h3, h4⟩ := hmin
      have := badV_at hs h3 (by omega) h4
      unfold badV at this
      rw [if_pos hs, h] at this
      injection this with this
      omega
  · cases h
theorem badV_none {xs : List T} (hs : svB xs = true) (h : badV xs = none) : okTo xs xs.length := fun j hj => by
  cases he : endV xs j with
  | true => rfl
  | false =>
    simp only [badV, hs, if_true] at h
    rw [List.find?_eq_none] at h
    have := h j (List.mem_range.2 hj)
    simp [he] at this
theorem bothB_iff {xs : List T} : bothB xs = true ↔ svB xs = true ∧ okTo xs xs.length := by
  simp [bothB, okTo, List.all_eq_true]
theorem bothB_no {xs : List T} (h : svB xs = false) : bothB xs = false := by simp [bothB, h]
theorem bothB_end {xs : List T} {n : Nat} (hl : xs.length = n) (h : okTo xs n) : bothB xs = svB xs := by
  cases hs : svB xs
  · exact bothB_no hs
  · rw [bothB_iff]; exact ⟨hs, hl ▸ h⟩
theorem bothB_at {xs : List T} {k : Nat} (hk : k < xs.length) (hb : endV xs k = false) : bothB xs = false := by
  rw [Bool.eq_false_iff]
  intro h
  have := (bothB_iff.1 h).2 k hk
  rw [hb] at this; cases this
theorem bothB_bad (xs : List T) : bothB xs = (svB xs && !(badV xs).isSome) := by
  cases hs : svB xs
  · simp [bothB_no hs]
  · cases hb : badV xs with
    | none => simp only [Option.isSome_none, Bool.not_false, Bool.and_self]; exact bothB_iff.2 ⟨hs, badV_none hs hb⟩
    | some k =>
      obtain ⟨_, h2, _, h4⟩ := badV_some hb
      simp [bothB_at h2 h4]
def lowTo (xs : List T) (k : Nat) : Prop := ∀ j : Nat, j < k → (rlV xs j).isSome = true
theorem lowTo_zero (xs : List T) : lowTo xs 0 := fun j hj => by omega
theorem lowTo_succ {xs : List T} {k : Nat} (h : lowTo xs k) (hk : (rlV xs k).isSome = true) : lowTo xs (k + 1) := fun j hj => by
  rcases Nat.lt_succ_iff_lt_or_eq.1 hj with h1 | rfl
  · exact h j h1
  · exact hk
theorem lowsB_iff {xs : List T} : lowsB xs = true ↔ svB xs = true ∧ lowTo xs xs.length := by
  simp [lowsB, lowTo, List.all_eq_true]
theorem lowsB_no {xs : List T} (h : svB xs = false) : lowsB xs = false := by simp [lowsB, h]
theorem lowsB_end {xs : List T} {n : Nat} (hl : xs.length = n) (h : lowTo xs n) : lowsB xs = svB xs := by
  cases hs : svB xs
  · exact lowsB_no hs
  · rw [lowsB_iff]; exact ⟨hs, hl ▸ h⟩
theorem lowsB_at {xs : List T} {k : Nat} (hk : k < xs.length) (hb : (rlV xs k).isSome = false) : lowsB xs = false := by
  rw [Bool.eq_false_iff]
  intro h
  have := (lowsB_iff.1 h).2 k hk
  rw [hb] at this; cases this

/-- parts of lists -/
theorem sv_sub {xs ys : List T} (hs : ys.Sublist xs) (h : svB xs = true) : svB ys = true := by
  obtain ⟨h1, h2⟩ := sv_all h
  simp only [svB, Bool.and_eq_true, decide_eq_true_eq, List.all_eq_true]
  exact ⟨Nat.le_trans hs.length_le h1, fun t ht => h2 t (hs.subset ht)⟩
theorem sv_perm {xs ys : List T} (hp : xs.Perm ys) (h : svB xs = true) : svB ys = true := by
  obtain ⟨h1, h2⟩ := sv_all h
  simp only [svB, Bool.and_eq_true, decide_eq_true_eq, List.all_eq_true]
  exact ⟨by rw [← hp.length_eq]; exact h1, fun t ht => h2 t (hp.mem_iff.2 ht)⟩
theorem endV_take {xs : List T} {m k : Nat} (hk : k < m) : endV (xs.take m) k = endV xs k := by
  unfold endV atT
  rw [List.take_take, Nat.min_eq_left (by omega), List.getElem?_take_of_lt hk]
theorem both_take {xs : List T} (h : bothB xs = true) (m : Nat) : bothB (xs.take m) = true := by
  obtain ⟨h1, h2⟩ := bothB_iff.1 h
  refine bothB_iff.2 ⟨sv_sub (List.take_sublist _ _) h1, fun j hj => ?_⟩
  rw [List.length_take] at hj
  rw [endV_take (by omega)]
  exact h2 j (by omega)
theorem bad_first {xs : List T} {k : Nat} (h : badV xs = some k) : bothB (xs.take k) = true ∧ bothB (xs.take (k + 1)) = false := by
  obtain ⟨h1, h2, h3, h4⟩ := badV_some h
  constructor
  · refine bothB_iff.2 ⟨sv_sub (List.take_sublist _ _) h1, fun j hj => ?_⟩
    rw [List.length_take] at hj
    rw [endV_take (by omega)]
    exact h3 j (by omega)
  · refine bothB_at (k := k) (by rw [List.length_take]; omega) ?_
    rw [endV_take (by omega)]; exact h4
theorem rlo_nil {x : T} (hx : tvB x = true) : rlo [] x = some x.low := by
  have h := (tvB_iff x).1 hx
  exact riseAt_here (by omega) (respF_nil _ _ _)
theorem rsw_nil {x : T} (hx : tvB x = true) (hc : x.crit = true) : rsw [] x = some x.high := by
  have h := (tvB_iff x).1 hx
  rw [rsw_yes (rlo_nil hx) hc]
  exact riseAt_here (by omega) (respF_nil _ _ _)
theorem endB_nil {x : T} (hx : tvB x = true) : endB [] x = true := by
  cases hc : x.crit
  · rw [endB_lo hc, rlo_nil hx]; rfl
  · rw [endB_hi hc, rsw_nil hx hc]; rfl
theorem endV_zero {xs : List T} {x : T} (hs : svB xs = true) (hx : xs[0]? = some x) : endV xs 0 = true := by
  rw [endV_of hx, List.take_zero]; exact endB_nil ((sv_all hs).2 x (List.mem_of_getElem? hx))
theorem bad_one {x : T} (hx : tvB x = true) : badV [x] = none := by
  apply badV_end (n := 1) rfl
  intro j hj
  have : j = 0 := by omega
  subst this
  exact endV_zero (by simp [svB, hx]) rfl
theorem bad_pos {xs : List T} {k : Nat} (h : badV xs = some k) : 0 < k := by
  obtain ⟨h1, h2, h3, h4⟩ := badV_some h
  rcases Nat.eq_zero_or_pos k with rfl | h5
  · rw [endV_zero h1 (atT_get h2)] at h4; cases h4
  · exact h5
theorem both_low {xs : List T} (h : bothB xs = true) : lowsB xs = true := by
  obtain ⟨h1, h2⟩ := bothB_iff.1 h
  refine lowsB_iff.2 ⟨h1, fun j hj => ?_⟩
  obtain ⟨r, hr⟩ := endB_low (h2 j hj)
  rw [rlV_yes (plB_nat h1 hj) (atT_get hj), hr]; rfl
theorem low_take {xs : List T} (h : lowsB xs = true) (m : Nat) : lowsB (xs.take m) = true := by
  obtain ⟨h1, h2⟩ := lowsB_iff.1 h
  have h3 := sv_sub (List.take_sublist m xs) h1
  refine lowsB_iff.2 ⟨h3, fun j hj => ?_⟩
  have hj' := hj
  rw [List.length_take] at hj'
  have := h2 j (by omega)
  rw [rlV_yes (plB_nat h1 (by omega)) (atT_get (by omega))] at this
  rw [rlV_yes (plB_nat h3 hj) (x := atT xs j) (by rw [List.getElem?_take_of_lt (by omega)]; exact atT_get (by omega)), List.take_take, Nat.min_eq_left (by omega)]
  exact this

end Go.Proofs.Ytbfdpegjflhboaa
