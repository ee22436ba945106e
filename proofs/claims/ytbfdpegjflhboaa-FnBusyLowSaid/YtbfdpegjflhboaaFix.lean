/- Plain facts on least fixed points from below: what is reached by trying a number, then what a monotone function makes of it, and so on. Condition: the function is monotone, and its value at the start is no less than the start. -/
namespace Go.Proofs.Ytbfdpegjflhboaa
set_option linter.unusedVariables false

/-- from w on: the first number that f gives back, if it is at most 'most'; at most k tries -/
def rise (f : Int → Int) (most : Int) : Nat → Int → Option Int
  | 0, _ => none
  | k + 1, w => if w ≤ most then (if f w = w then some w else rise f most k (f w)) else none

/-- monotone from s on -/
def MonoFrom (s : Int) (f : Int → Int) : Prop := ∀ x y, s ≤ x → x ≤ y → f x ≤ f y

/-- the tries that are wanted from w on -/
def fuel (most w : Int) : Nat := (most - w + 2).toNat

def riseAt (f : Int → Int) (most s : Int) : Option Int := rise f most (fuel most s) s

section
variable {f : Int → Int} {most s : Int}

theorem rise_fuel (hm : MonoFrom s f) : ∀ (k1 k2 : Nat) (w : Int), s ≤ w → w ≤ f w → fuel most w ≤ k1 → fuel most w ≤ k2 → rise f most k1 w = rise f most k2 w := by
  intro k1
  induction k1 with
  | zero =>
    intro k2 w hs hw h1 h2
    have hc : ¬ w ≤ most := by unfold fuel at h1; omega
    cases k2 <;> simp [rise, hc]
  | succ k1 ih =>
    intro k2 w hs hw h1 h2
    by_cases hc : w ≤ most
    · cases k2 with
      | zero => exfalso; unfold fuel at h2; omega
      | succ k2 =>
        simp only [rise, if_pos hc]
        by_cases he : f w = w
        · rw [if_pos he, if_pos he]
        · rw [if_neg he, if_neg he]
          exact ih k2 (f w) (by omega) (hm _ _ hs hw) (by unfold fuel at h1 ⊢; omega) (by unfold fuel at h2 ⊢; omega)
    · cases k2 <;> simp [rise, hc]

theorem riseAt_past {w : Int} (hc : ¬ w ≤ most) : riseAt f most w = none := by
  unfold riseAt
  cases fuel most w <;> simp [rise, hc]

theorem riseAt_here {w : Int} (hc : w ≤ most) (he : f w = w) : riseAt f most w = some w := by
  unfold riseAt
  obtain ⟨m, hm⟩ : ∃ m, fuel most w = m + 1 := ⟨fuel most w - 1, by unfold fuel; omega⟩
  rw [hm]
  simp [rise, hc, he]

theorem riseAt_next (hm : MonoFrom s f) {w : Int} (hs : s ≤ w) (hw : w ≤ f w) (hc : w ≤ most) (he : f w ≠ w) : riseAt f most w = riseAt f most (f w) := by
  unfold riseAt
  obtain ⟨m, hf⟩ : ∃ m, fuel most w = m + 1 := ⟨fuel most w - 1, by unfold fuel; omega⟩
  rw [hf]
  simp only [rise, if_pos hc, if_neg he]
  exact rise_fuel hm _ _ _ (by omega) (hm _ _ hs hw) (by unfold fuel at hf ⊢; omega) (Nat.le_refl _)

theorem riseAt_some_aux (hm : MonoFrom s f) : ∀ (k : Nat) (w r : Int), s ≤ w → w ≤ f w → fuel most w ≤ k → riseAt f most w = some r →
    w ≤ r ∧ r ≤ most ∧ f r = r ∧ ∀ x, w ≤ x → f x ≤ x → r ≤ x := by
  intro k
  induction k with
  | zero =>
    intro w r hs hw hk h
    rw [riseAt_past (by unfold fuel at hk; omega)] at h
    cases h
  | succ k ih =>
    intro w r hs hw hk h
    by_cases hc : w ≤ most
    · by_cases he : f w = w
      · rw [riseAt_here hc he] at h
        injection h with h
        subst h
        exact ⟨Int.le_refl _, hc, he, fun x hx _ => hx⟩
      · rw [riseAt_next hm hs hw hc he] at h
        obtain ⟨h1, h2, h3, h4⟩ := ih (f w) r (by omega) (hm _ _ hs hw) (by unfold fuel at hk ⊢; omega) h
        refine ⟨by omega, h2, h3, fun x hx hfx => h4 x ?_ hfx⟩
        have := hm w x hs hx
        omega
    · rw [riseAt_past hc] at h
      cases h

theorem riseAt_some (hm : MonoFrom s f) {r : Int} (hs : s ≤ f s) (h : riseAt f most s = some r) :
    s ≤ r ∧ r ≤ most ∧ f r = r ∧ ∀ x, s ≤ x → f x ≤ x → r ≤ x :=
  riseAt_some_aux hm _ s r (Int.le_refl _) hs (Nat.le_refl _) h

theorem riseAt_ex_aux (hm : MonoFrom s f) (x : Int) (hx : x ≤ most) (hfx : f x ≤ x) : ∀ (k : Nat) (w : Int), s ≤ w → w ≤ f w → w ≤ x → fuel most w ≤ k → ∃ r, riseAt f most w = some r := by
  intro k
  induction k with
  | zero =>
    intro w hs hw hwx hk
    unfold fuel at hk
    omega
  | succ k ih =>
    intro w hs hw hwx hk
    have hc : w ≤ most := by omega
    by_cases he : f w = w
    · exact ⟨w, riseAt_here hc he⟩
    · rw [riseAt_next hm hs hw hc he]
      have h1 := hm w x hs hwx
      exact ih (f w) (by omega) (hm _ _ hs hw) (by omega) (by unfold fuel at hk ⊢; omega)

theorem riseAt_ex (hm : MonoFrom s f) (hs : s ≤ f s) {x : Int} (hsx : s ≤ x) (hx : x ≤ most) (hfx : f x ≤ x) : ∃ r, riseAt f most s = some r ∧ s ≤ r ∧ r ≤ x ∧ f r = r := by
  obtain ⟨r, hr⟩ := riseAt_ex_aux hm x hx hfx _ s (Int.le_refl _) hs hsx (Nat.le_refl _)
  obtain ⟨h1, h2, h3, h4⟩ := riseAt_some hm hs hr
  exact ⟨r, hr, h1, h4 x hsx hfx, h3⟩

theorem riseAt_none (hm : MonoFrom s f) (hs : s ≤ f s) (h : riseAt f most s = none) : ∀ x, s ≤ x → x ≤ most → ¬ f x ≤ x := by
  intro x hsx hx hfx
  obtain ⟨r, hr, _⟩ := riseAt_ex hm hs hsx hx hfx
  rw [h] at hr
  cases hr
end

/-- a function that is smaller everywhere from its own start on has a smaller fixed point -/
theorem riseAt_smaller {f g : Int → Int} {s t m1 m2 r : Int} (hf : MonoFrom s f) (hg : MonoFrom t g) (hsf : s ≤ f s) (htg : t ≤ g t) (hle : t ≤ s)
    (h : ∀ x, s ≤ x → x ≤ m1 → g x ≤ f x) (hr : riseAt f m1 s = some r) (hrm : r ≤ m2) : ∃ q, riseAt g m2 t = some q ∧ q ≤ r := by
  obtain ⟨h1, h2, h3, h4⟩ := riseAt_some hf hsf hr
  obtain ⟨q, hq, _, hqr, _⟩ := riseAt_ex (most := m2) hg htg (x := r) (by omega) hrm (by have := h r h1 h2; omega)
  exact ⟨q, hq, hqr⟩

end Go.Proofs.Ytbfdpegjflhboaa
