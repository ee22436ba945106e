/- Plain facts for the laws on holding: critical tasks alone hold; the share of all is at most 1 where the last one has a response; sums of shares. Condition: the tasks are valid. -/
import Derived.Test.YtjjeldcbglnlaaaSum
import Derived.Test.YtjjeldcbglnlaaaBusy
import Derived.Test.YtjjeldcbglnlaaaRespH
import Derived.Test.YtjjeldcbglnlaaaRespS
namespace Go.Proofs.Ytjjeldcbglnlaaa
set_option linter.unusedVariables false

theorem shr_is5 {c : Bool} {f : T → Int} (hf : Nd f) {xs : List T} (h : svB xs = true) : isShare (shr c f xs) := by
  obtain ⟨h1, h2, h3, h4⟩ := shr_sm (c := c) hf h
  refine ⟨h1, h2, h3, h4, ?_⟩
  rw [shr_sc hf h]
  exact red_idem (sc_nonneg hf (sv_all h).2) LL_pos
theorem one_is5 : isShare ⟨1, 1⟩ := by decide
theorem sum_eq5 {xs : List T} (h : svB xs = true) : plusV (shr true T.low xs) (shr false T.low xs) = red (scA xs) LL := by
  rw [plusV_comm, plus_shr h nd_low nd_low, scA_split]
theorem sum_sm5 {xs : List T} (h : svB xs = true) : Sm (plusV (shr true T.low xs) (shr false T.low xs)) := by
  rw [plusV_comm]; exact plus_sm h nd_low nd_low
theorem sum_is5 {xs : List T} (h : svB xs = true) : isShare (plusV (shr true T.low xs) (shr false T.low xs)) := by
  obtain ⟨h1, h2, h3, h4⟩ := sum_sm5 h
  refine ⟨h1, h2, h3, h4, ?_⟩
  rw [sum_eq5 h]
  exact red_idem (scA_nonneg (sv_allTv h)) LL_pos
theorem cmp_le5 (x y : Int) : decide (cmpI x y ≤ 0) = decide (x ≤ y) := by
  unfold cmpI
  rw [decide_eq_decide]
  split <;> (try split) <;> omega
theorem sum_one5 {xs : List T} (h : svB xs = true) : decide (cmpI ((plusV (shr true T.low xs) (shr false T.low xs)).num) ((plusV (shr true T.low xs) (shr false T.low xs)).den) ≤ 0) = decide (scA xs ≤ LL) := by
  rw [cmp_le5, sum_eq5 h]
  exact fits_red (scA_nonneg (sv_allTv h)) LL_pos
/-- the last one has a response: all is no more than the whole -/
theorem low_share {xs : List T} {k : Nat} (h : lowsB xs = true) (hl : xs.length = k + 1) : scA xs ≤ LL := by
  obtain ⟨hs, hr⟩ := lowsB_iff.1 h
  have hx : xs[k]? = some (atT xs k) := atT_get (by omega)
  generalize atT xs k = x at *
  have h1 := hr k (by omega)
  rw [rlV_yes (plB_nat hs (by omega)) hx] at h1
  obtain ⟨r, hr1⟩ := Option.isSome_iff_exists.1 h1
  have hv := sv_allTv hs
  have hxv := sv_at hs hx
  have hvt : allTv (xs.take k) := fun t ht => hv t (List.mem_of_mem_take ht)
  obtain ⟨a1, a2, a3, _⟩ := rlo_some hvt hxv hr1
  obtain ⟨t1, t2, t3, t4⟩ := tv_bds hxv
  have ht := (tvB_iff x).1 hxv
  have e : xs = xs.take k ++ [x] := by
    have hk : k < xs.length := by omega
    have he : xs[k] = x := (List.getElem?_eq_some_iff.1 hx).2
    have h6 : xs.drop k = [x] := by rw [List.drop_eq_getElem_cons hk, he, List.drop_eq_nil_of_le (by omega)]
    rw [← h6, List.take_append_drop]
  have h2 : respF 0 gLow xs r = r := by
    rw [e, respF_snoc]
    have h3 := respF_base 0 x.low gLow (xs.take k) r
    rw [Int.zero_add] at h3
    have h4 : gLow x r = x.low := dem_one hxv (by omega) (by omega)
    rw [h4]
    omega
  have h5 := sum_share hv (w := r) (by omega)
  rw [h2] at h5
  exact Int.le_of_mul_le_mul_left h5 (by omega)
theorem critL_idx {xs : List T} {j : Nat} {u : T} (h : (critL xs)[j]? = some u) : ∃ k x, xs[k]? = some x ∧ x.crit = true ∧ u = { x with low := x.high } ∧ (critL xs).take j = critL (xs.take k) := by
  induction xs generalizing j with
  | nil => simp [critL] at h
  | cons t ts ih =>
    cases hc : t.crit
    · have e : ∀ zs : List T, critL (t :: zs) = critL zs := fun zs => by simp [critL, hc]
      rw [e] at h
      obtain ⟨k, x, h1, h2, h3, h4⟩ := ih h
      refine ⟨k + 1, x, by simpa using h1, h2, h3, ?_⟩
      rw [e, List.take_succ_cons, e]; exact h4
    · have e : ∀ zs : List T, critL (t :: zs) = { t with low := t.high } :: critL zs := fun zs => by simp [critL, hc]
      rw [e] at h
      cases j with
      | zero =>
        refine ⟨0, t, rfl, hc, ?_, ?_⟩
        · simpa using h.symm
        · simp [critL]
      | succ j =>
        obtain ⟨k, x, h1, h2, h3, h4⟩ := ih (by simpa using h)
        refine ⟨k + 1, x, by simpa using h1, h2, h3, ?_⟩
        rw [e, List.take_succ_cons, List.take_succ_cons, e, h4]
theorem gSw_crit {xs : List T} {low : Int} {t : T} (ht : t ∈ critL xs) (w : Int) : gSw low t w = gLow t w := by
  obtain ⟨y, hy, hc, rfl⟩ := critL_mem ht
  simp [gSw, gLow, dem, need, hc]
theorem both_crit {xs : List T} (h : bothB xs = true) : bothB (critL xs) = true := by
  obtain ⟨hs, ho⟩ := bothB_iff.1 h
  refine bothB_iff.2 ⟨critL_sv hs, fun j hj => ?_⟩
  have hu := atT_get hj
  obtain ⟨k, x, hx, hc, hux, htk⟩ := critL_idx hu
  rw [endV_of hu, htk, hux]
  have hk : k < xs.length := (List.getElem?_eq_some_iff.1 hx).1
  have h1 := ho k hk
  rw [endV_of hx, endB_hi hc] at h1
  obtain ⟨r, hr⟩ := Option.isSome_iff_exists.1 h1
  obtain ⟨low, rh, e1, e2, _⟩ := sw_facts (sv_take hs k) (sv_at hs hx) hr
  rw [endB_hi (by exact hc), rsw_yes e2 (by exact hc)]
  have h3 : rswF rh (critL (xs.take k)) { x with low := x.high } = rlo (critL (xs.take k)) { x with low := x.high } := by
    unfold rswF rlo
    have : respF ({ x with low := x.high } : T).high (gSw rh) (critL (xs.take k)) = respF ({ x with low := x.high } : T).low gLow (critL (xs.take k)) := by
      funext w
      exact respF_congr fun t ht => gSw_crit ht w
    rw [this]
  rw [h3, e2]; rfl
end Go.Proofs.Ytjjeldcbglnlaaa
