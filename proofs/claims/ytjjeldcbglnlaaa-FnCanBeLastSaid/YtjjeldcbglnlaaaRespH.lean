/- Plain facts on responses with high needs: those of the critical tasks alone. Condition: the tasks are valid. -/
import Derived.Test.YtjjeldcbglnlaaaRespL
namespace Go.Proofs.Ytjjeldcbglnlaaa
set_option linter.unusedVariables false

theorem critL_append (xs ys : List T) : critL (xs ++ ys) = critL xs ++ critL ys := by simp [critL]
theorem critL_all {xs : List T} {u : T} (h : u ∈ critL xs) : u.crit = true := by
  obtain ⟨t, _, hc, rfl⟩ := critL_mem h
  exact hc
theorem critL_idem (xs : List T) : critL (critL xs) = critL xs := by
  induction xs with
  | nil => rfl
  | cons t ts ih =>
    cases hc : t.crit
    · have : critL (t :: ts) = critL ts := by simp [critL, hc]
      rw [this]; exact ih
    · have e : critL (t :: ts) = { t with low := t.high } :: critL ts := by simp [critL, hc]
      have e2 : critL ({ t with low := t.high } :: critL ts) = { t with low := t.high } :: critL (critL ts) := by simp [critL, hc]
      rw [e, e2, ih]
theorem critL_full {ys : List T} (h : ∀ u ∈ ys, u.crit = true) : (critL ys).length = ys.length := by
  simp only [critL, List.length_map]
  rw [List.filter_eq_self.2 (fun u hu => by simpa using h u hu)]
theorem critL_pos {xs : List T} {k : Nat} {x : T} (hx : xs[k]? = some x) (hc : x.crit = true) : 0 < (critL xs).length := by
  have : { x with low := x.high } ∈ critL xs := by
    simp only [critL, List.mem_map, List.mem_filter]
    exact ⟨x, ⟨List.mem_of_getElem? hx, hc⟩, rfl⟩
  exact List.length_pos_of_mem this
theorem critL_take {xs : List T} (k : Nat) : (critL xs).take (critL (xs.take k)).length = critL (xs.take k) := by
  have : critL xs = critL (xs.take k) ++ critL (xs.drop k) := by rw [← critL_append, List.take_append_drop]
  rw [this, List.take_left']
  rfl
theorem critL_at {xs : List T} {k : Nat} {x : T} (hx : xs[k]? = some x) (hc : x.crit = true) : (critL xs)[(critL (xs.take k)).length]? = some { x with low := x.high } := by
  have hk : k < xs.length := (List.getElem?_eq_some_iff.1 hx).1
  have e : xs = xs.take k ++ x :: xs.drop (k + 1) := by
    have h1 : xs[k] = x := (List.getElem?_eq_some_iff.1 hx).2
    rw [← h1]; simp
  have e2 : critL xs = critL (xs.take k) ++ { x with low := x.high } :: critL (xs.drop (k + 1)) := by
    conv => lhs; rw [e]
    rw [critL_append]
    congr 1
    simp [critL, hc]
  rw [e2, List.getElem?_append_right (Nat.le_refl _), Nat.sub_self]
  rfl
theorem rhV_some {xs : List T} {i r : Int} (h : rhV xs i = some r) : svB xs = true ∧ ∃ (k : Nat) (x : T), xs[k]? = some x ∧ x.crit = true ∧ i = k ∧ k < xs.length ∧ rlo (critL (xs.take k)) { x with low := x.high } = some r := by
  unfold rhV at h
  split at h
  · rename_i hc
    obtain ⟨hp, hc⟩ := hc
    obtain ⟨hs, k, rfl, hk⟩ := plB_at rfl hp
    have hx := atT_get hk
    rw [Int.toNat_natCast] at hc h
    refine ⟨hs, k, atT xs k, hx, hc, rfl, hk, ?_⟩
    have hat := critL_at hx hc
    have hlt := (List.getElem?_eq_some_iff.1 hat).1
    rw [rlV_yes (plB_nat (critL_sv hs) hlt) hat, critL_take] at h
    exact h
  · cases h
theorem rh_crit (xs : List T) (j : Nat) (hj : j < (critL xs).length) : rhV (critL xs) (j : Int) = rlV (critL xs) (j : Int) := by
  cases hp : plB (critL xs) (j : Int)
  · rw [rhV_no hp, rlV_no hp]
  · have hx := atT_get hj
    have hc := critL_all (List.mem_of_getElem? hx)
    rw [rhV_yes hp hx hc, critL_idem, critL_full (fun u hu => critL_all (List.mem_of_mem_take hu)), List.length_take, Nat.min_eq_left (by omega)]
/-- what the critical ones want, over all tasks -/
def gHi (t : T) (w : Int) : Int := if t.crit = true then dem true t w else 0
theorem critF (base : Int) (pre : List T) (w : Int) : respF base gLow (critL pre) w = respF base gHi pre w := by
  induction pre with
  | nil => rfl
  | cons t ts ih =>
    cases hc : t.crit
    · have : critL (t :: ts) = critL ts := by simp [critL, hc]
      rw [this, respF_cons, ih]
      simp [gHi, hc]
    · have : critL (t :: ts) = { t with low := t.high } :: critL ts := by simp [critL, hc]
      rw [this, respF_cons, respF_cons, ih]
      simp [gHi, hc, gLow, dem, need]
theorem gHi_bd {t : T} (h : tvB t = true) {w : Int} (hw : 0 ≤ w) : 0 ≤ gHi t w ∧ gHi t w ≤ w + 19 := by
  unfold gHi
  split
  · exact ⟨dem_nonneg h hw, dem_le h hw⟩
  · omega
theorem hi_bd {base v : Int} {xs : List T} (h : svB xs = true) (k : Nat) (h0 : 0 ≤ v) (hb : 0 ≤ base) : 0 ≤ respF base gHi (xs.take k) v ∧ respF base gHi (xs.take k) v ≤ base + 5 * (v + 19) := by
  have hv : ∀ t ∈ xs.take k, tvB t = true := fun t ht => (sv_all h).2 t (List.mem_of_mem_take ht)
  have h1 := respF_ge (base := base) (g := gHi) (pre := xs.take k) (w := v) (fun t ht => (gHi_bd (hv t ht) h0).1)
  have h2 := respF_bd (base := base) (g := gHi) (pre := xs.take k) (w := v) (B := v + 19) (fun t ht => (gHi_bd (hv t ht) h0).2)
  have h3 : (xs.take k).length ≤ 5 := Nat.le_trans (List.length_take_le' ..) (sv_all h).1
  have h4 : ((xs.take k).length : Int) * (v + 19) ≤ 5 * (v + 19) := Int.mul_le_mul_of_nonneg_right (by omega) (by omega)
  omega
theorem critL_tvs {pre : List T} (hv : allTv pre) : allTv (critL pre) := fun u hu => by
  obtain ⟨t, ht, hc, rfl⟩ := critL_mem hu
  exact critL_tv (hv t ht) hc
/-- a response with high needs -/
theorem rh_facts {pre : List T} {x : T} {r : Int} (hv : allTv pre) (hx : tvB x = true) (hc : x.crit = true) (h : rlo (critL pre) { x with low := x.high } = some r) :
    x.high ≤ r ∧ r ≤ x.due ∧ respF x.high gHi pre r = r ∧ ∀ y, x.high ≤ y → respF x.high gHi pre y ≤ y → r ≤ y := by
  obtain ⟨h1, h2, h3, h4⟩ := rlo_some (critL_tvs hv) (critL_tv hx hc) h
  refine ⟨h1, h2, ?_, fun y hy hfy => h4 y hy ?_⟩
  · rw [← critF]; exact h3
  · dsimp only
    rw [critF]; exact hfy
/-- at the switch all responses are as long -/
theorem sw_facts {pre : List T} {x : T} {r : Int} (hv : allTv pre) (hx : tvB x = true) (h : rsw pre x = some r) :
    ∃ low rh, rlo pre x = some low ∧ rlo (critL pre) { x with low := x.high } = some rh ∧ low ≤ r ∧ rh ≤ r ∧ r ≤ x.due ∧ x.crit = true ∧ 0 ≤ low ∧ low ≤ x.due ∧ respF x.high (gSw low) pre r = r ∧ x.high ≤ r := by
  have ht := (tvB_iff x).1 hx
  obtain ⟨low, h1, hc, h2⟩ := rsw_some h
  obtain ⟨a1, a2, a3, a4⟩ := rlo_some hv hx h1
  obtain ⟨b1, b2, b3, b4⟩ := rswF_some (by omega) hv hx h2
  have hhi : respF x.high gHi pre r ≤ r := by
    have : respF x.high gHi pre r ≤ respF x.high (gSw low) pre r := respF_le (Int.le_refl _) (fun t ht => by
      unfold gHi gSw
      split
      · exact Int.le_refl _
      · exact dem_nonneg (hv t ht) (by omega))
    omega
  obtain ⟨rh, c1, c2, c3⟩ := rlo_ex (x := { x with low := x.high }) (critL_tvs hv) (critL_tv hx hc) (y := r) b1 b2 (by dsimp only; rw [critF]; exact hhi)
  refine ⟨low, rh, h1, c1, ?_, c3, b2, hc, by omega, a2, b3, b1⟩
  rcases Int.lt_or_le r low with hlt | hle
  · have : respF x.low gLow pre r ≤ r := by
      have h5 : respF x.low gLow pre r ≤ respF x.high (gSw low) pre r := respF_le (by omega) (fun t htm => by
        unfold gLow gSw
        split
        · exact dem_hi (hv t htm) (by omega)
        · exact dem_mono (hv t htm) (by omega) (by omega))
      omega
    exact a4 r (by omega) this
  · exact hle

end Go.Proofs.Ytjjeldcbglnlaaa
