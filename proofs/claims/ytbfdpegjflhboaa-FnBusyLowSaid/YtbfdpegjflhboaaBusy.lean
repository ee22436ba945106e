/- Plain facts on busy times: they end if and only if the shares are no more than all. Condition: the tasks are valid. -/
import Derived.Test.YtbfdpegjflhboaaRespL
namespace Go.Proofs.Ytbfdpegjflhboaa
set_option linter.unusedVariables false

/-- all low shares, in parts of LL -/
def scA (xs : List T) : Int := (xs.map (fun t => t.low * (LL / t.every))).sum
theorem scA_cons (t : T) (xs : List T) : scA (t :: xs) = t.low * (LL / t.every) + scA xs := by simp [scA]
theorem scA_split (xs : List T) : sc false T.low xs + sc true T.low xs = scA xs := by
  induction xs with
  | nil => rfl
  | cons t ts ih =>
    rw [sc_cons, sc_cons, scA_cons]
    have : sc1 false T.low t + sc1 true T.low t = t.low * (LL / t.every) := by
      unfold sc1
      cases t.crit <;> simp
    omega
theorem need_false (t : T) : need false t = t.low := rfl
theorem sum_share {xs : List T} (hv : allTv xs) {w : Int} (hw : 0 ≤ w) : w * scA xs ≤ respF 0 gLow xs w * LL := by
  induction xs with
  | nil => simp [scA, respF]
  | cons t ts ih =>
    rw [scA_cons, respF_cons]
    have h1 := ih (fun u hu => hv u (by simp [hu]))
    have h2 := dem_share (hi := false) (hv t (by simp)) hw
    rw [need_false] at h2
    have e1 : w * (t.low * (LL / t.every) + scA ts) = w * (t.low * (LL / t.every)) + w * scA ts := by grind
    have e2 : (respF 0 gLow ts w + gLow t w) * LL = respF 0 gLow ts w * LL + dem false t w * LL := by unfold gLow; grind
    omega
theorem sum_mult {xs : List T} (hv : allTv xs) {w : Int} (hd : ∀ t ∈ xs, t.every ∣ w) : respF 0 gLow xs w * LL = w * scA xs := by
  induction xs with
  | nil => simp [scA, respF]
  | cons t ts ih =>
    rw [scA_cons, respF_cons]
    have h1 := ih (fun u hu => hv u (by simp [hu])) (fun u hu => hd u (by simp [hu]))
    have h2 := dem_mult (hi := false) (hv t (by simp)) (hd t (by simp))
    rw [need_false] at h2
    have e1 : w * (t.low * (LL / t.every) + scA ts) = w * (t.low * (LL / t.every)) + w * scA ts := by grind
    have e2 : (respF 0 gLow ts w + gLow t w) * LL = respF 0 gLow ts w * LL + dem false t w * LL := by unfold gLow; grind
    omega
theorem hy_dvd {xs : List T} (hs : svB xs = true) : ∀ t ∈ xs, t.every ∣ hyI xs := fun t ht => by
  have h1 := hyN_mem ht
  have h2 := sv_every hs t ht
  simp only [hyI, hs, if_true]
  obtain ⟨e, he⟩ := Int.eq_ofNat_of_zero_le (show (0 : Int) ≤ t.every by omega)
  rw [he] at h1 ⊢
  exact Int.natCast_dvd_natCast.2 h1
theorem sv_allTv {xs : List T} (hs : svB xs = true) : allTv xs := (sv_all hs).2
theorem busy_facts {xs : List T} {r : Int} (h : busyV xs = some r) : svB xs = true ∧ xs ≠ [] ∧ 1 ≤ r ∧ r ≤ hyI xs ∧ respF 0 gLow xs r = r ∧ ∀ y, 1 ≤ y → respF 0 gLow xs y ≤ y → r ≤ y := by
  unfold busyV at h
  split at h
  · rename_i hc
    have h1 := riseAt_some (low_monoF (base := 0) (s := 1) (by omega) (sv_allTv hc.1)) (busy_ge hc.1 hc.2) h
    exact ⟨hc.1, hc.2, h1.1, h1.2.1, h1.2.2.1, h1.2.2.2⟩
  · cases h
theorem busy_share {xs : List T} {r : Int} (h : busyV xs = some r) : scA xs ≤ LL := by
  obtain ⟨hs, _, h1, h2, h3, _⟩ := busy_facts h
  have h4 := sum_share (sv_allTv hs) (w := r) (by omega)
  rw [h3] at h4
  exact Int.le_of_mul_le_mul_left h4 (by omega)
theorem busy_ends {xs : List T} (hs : svB xs = true) (hn : xs ≠ []) (h : scA xs ≤ LL) : ∃ r, busyV xs = some r := by
  have h1 := sum_mult (sv_allTv hs) (hy_dvd hs)
  have hy := hyI_le hs
  have h2 : respF 0 gLow xs (hyI xs) ≤ hyI xs := by
    have h3 : hyI xs * scA xs ≤ hyI xs * LL := Int.mul_le_mul_of_nonneg_left h (by omega)
    rw [← h1] at h3
    exact Int.le_of_mul_le_mul_right h3 (by have := LL_pos; omega)
  obtain ⟨r, hr, _⟩ := riseAt_ex (low_monoF (base := 0) (s := 1) (by omega) (sv_allTv hs)) (busy_ge hs hn) hy.1 (Int.le_refl _) h2
  exact ⟨r, by simp [busyV, hs, hn, hr]⟩
theorem busy_iff {xs : List T} (hs : svB xs = true) (hn : xs ≠ []) : (busyV xs).isSome = decide (scA xs ≤ LL) := by
  by_cases h : scA xs ≤ LL
  · obtain ⟨r, hr⟩ := busy_ends hs hn h
    simp [hr, h]
  · cases hb : busyV xs with
    | none => simp [h]
    | some r => exact absurd (busy_share hb) h
theorem scA_nonneg {xs : List T} (hv : allTv xs) : 0 ≤ scA xs := by
  induction xs with
  | nil => simp [scA]
  | cons t ts ih =>
    rw [scA_cons]
    have h1 := ih (fun u hu => hv u (by simp [hu]))
    have h2 := (tvB_iff t).1 (hv t (by simp))
    have h3 : 0 ≤ t.low * (LL / t.every) := Int.mul_nonneg (by omega) (Int.ediv_nonneg (by decide) (by omega))
    omega
theorem busy_more {xs : List T} {r : Int} (h : busyV xs = some r) (hl : 2 ≤ xs.length) : ∃ u, busyV (xs.drop 1) = some u ∧ u < r := by
  obtain ⟨hs, _, h1, h2, h3, _⟩ := busy_facts h
  have hsh := busy_share h
  match xs, hl with
  | t :: y :: ys, _ =>
    simp only [List.drop_succ_cons, List.drop_zero]
    have ht := sv_allTv hs t (by simp)
    have hs' : svB (y :: ys) = true := sv_sub (List.sublist_cons_self _ _) hs
    have hne : (y :: ys) ≠ [] := by simp
    rw [scA_cons] at hsh
    have hlow := (tvB_iff t).1 ht
    have h4 : 0 ≤ t.low * (LL / t.every) := Int.mul_nonneg (by omega) (Int.ediv_nonneg (by decide) (by omega))
    obtain ⟨u, hu⟩ := busy_ends hs' hne (by omega)
    obtain ⟨_, _, u1, u2, u3, u4⟩ := busy_facts hu
    refine ⟨u, hu, ?_⟩
    rw [respF_cons] at h3
    have h5 := dem_need (hi := false) ht h1
    have h6 := (need_bd (hi := false) ht).1
    have h7 : respF 0 gLow (y :: ys) 1 ≤ respF 0 gLow (y :: ys) r := low_monoF (base := 0) (s := 1) (by omega) (sv_allTv hs') 1 r (Int.le_refl _) h1
    have h8 := busy_ge hs' hne
    have e : gLow t r = dem false t r := rfl
    have h9 : respF 0 gLow (y :: ys) (r - 1) ≤ respF 0 gLow (y :: ys) r := low_monoF (base := 0) (s := 1) (by omega) (sv_allTv hs') (r - 1) r (by omega) (by omega)
    have := u4 (r - 1) (by omega) (by omega)
    omega

end Go.Proofs.Ytbfdpegjflhboaa
