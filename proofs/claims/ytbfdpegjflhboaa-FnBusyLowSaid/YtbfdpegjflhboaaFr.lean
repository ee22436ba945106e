/- Plain facts on the shares of valid tasks: sums of fractions with one common denominator. No condition but that the tasks are valid. -/
import Derived.Test.YtbfdpegjflhboaaFrac
import Derived.Test.YtbfdpegjflhboaaImpl
namespace Go.Proofs.Ytbfdpegjflhboaa
set_option linter.unusedVariables false

/-- one step of the sum of the fractions of the tasks that are critical, or are not -/
def frS (c : Bool) (f : T → Int) (s : Int × Int) (t : T) : Int × Int := if t.crit = c then (s.1 * t.every + f t * s.2, s.2 * t.every) else s
def fr (c : Bool) (f : T → Int) (xs : List T) : Int × Int := xs.foldl (frS c f) (0, 1)
def frn (c : Bool) (f : T → Int) (xs : List T) : Int := (fr c f xs).1
def frd (c : Bool) (f : T → Int) (xs : List T) : Int := (fr c f xs).2
/-- a need: at least 1, at most the period, of each valid task -/
def Nd (f : T → Int) : Prop := ∀ t, tvB t = true → 1 ≤ f t ∧ f t ≤ t.every
theorem nd_low : Nd T.low := fun t h => by have := (tvB_iff t).1 h; omega
theorem nd_high : Nd T.high := fun t h => by have := (tvB_iff t).1 h; omega
def need (hi : Bool) : T → Int := if hi then T.high else T.low
theorem nd_need (hi : Bool) : Nd (need hi) := by cases hi <;> simp [need, nd_low, nd_high]

theorem fr_snoc (c : Bool) (f : T → Int) (xs : List T) (t : T) : fr c f (xs ++ [t]) = frS c f (fr c f xs) t := by simp [fr]
theorem frn_yes {c : Bool} {f : T → Int} {xs : List T} {t : T} (h : t.crit = c) : frn c f (xs ++ [t]) = frn c f xs * t.every + f t * frd c f xs := by simp [frn, frd, fr_snoc, frS, h]
theorem frd_yes {c : Bool} {f : T → Int} {xs : List T} {t : T} (h : t.crit = c) : frd c f (xs ++ [t]) = frd c f xs * t.every := by simp [frd, fr_snoc, frS, h]
theorem fr_no {c : Bool} {f : T → Int} {xs : List T} {t : T} (h : ¬ t.crit = c) : fr c f (xs ++ [t]) = fr c f xs := by simp [fr_snoc, frS, h]

theorem tv_every {t : T} (h : tvB t = true) : 1 ≤ t.every ∧ t.every ≤ 20 := by have := (tvB_iff t).1 h; omega

theorem mul_ge_one {a b : Int} (ha : 1 ≤ a) (hb : 1 ≤ b) : 1 ≤ a * b := by
  have h := Int.mul_pos (show 0 < a by omega) (show 0 < b by omega); omega
/-- the bounds of the sum -/
theorem fold_bd {c : Bool} {f : T → Int} (hf : Nd f) : ∀ (xs : List T) (s : Int × Int) (a D : Int), (∀ t ∈ xs, tvB t = true) → 0 ≤ a → 0 ≤ s.1 → s.1 ≤ a * s.2 → 1 ≤ s.2 → s.2 ≤ D →
    0 ≤ (xs.foldl (frS c f) s).1 ∧ (xs.foldl (frS c f) s).1 ≤ (a + xs.length) * (xs.foldl (frS c f) s).2 ∧ 1 ≤ (xs.foldl (frS c f) s).2 ∧ (xs.foldl (frS c f) s).2 ≤ D * 20 ^ xs.length := by
  intro xs
  induction xs with
  | nil => intro s a D _ _ h1 h2 h3 h4; simp; exact ⟨h1, h2, h3, h4⟩
  | cons t ts ih =>
    intro s a D hv h0 h1 h2 h3 h4
    have ht := hv t (by simp)
    have he := tv_every ht
    have hn := hf t ht
    have hD : 1 ≤ D := by omega
    have hv' : ∀ t ∈ ts, tvB t = true := fun x hx => hv x (by simp [hx])
    rw [List.foldl_cons, List.length_cons]
    have hp : D * 20 * 20 ^ ts.length = D * 20 ^ (ts.length + 1) := by rw [Int.pow_succ]; ac_rfl
    have ea : a + 1 + (ts.length : Int) = a + ((ts.length + 1 : Nat) : Int) := by omega
    by_cases hc : t.crit = c
    · have hs : frS c f s t = (s.1 * t.every + f t * s.2, s.2 * t.every) := by simp [frS, hc]
      have p1 : 0 ≤ s.1 * t.every := Int.mul_nonneg h1 (by omega)
      have p2 : 0 ≤ f t * s.2 := Int.mul_nonneg (by omega) (by omega)
      have p3 : s.1 * t.every ≤ a * s.2 * t.every := Int.mul_le_mul_of_nonneg_right h2 (by omega)
      have p4 : f t * s.2 ≤ t.every * s.2 := Int.mul_le_mul_of_nonneg_right hn.2 (by omega)
      have p5 : (a + 1) * (s.2 * t.every) = a * s.2 * t.every + t.every * s.2 := by grind
      have p6 : s.2 * t.every ≤ D * 20 := Int.mul_le_mul h4 he.2 (by omega) (by omega)
      have p7 := mul_ge_one h3 he.1
      rw [hs]
      have := ih (s.1 * t.every + f t * s.2, s.2 * t.every) (a + 1) (D * 20) hv' (by omega) (by simp only; omega) (by simp only; rw [p5]; omega) p7 p6
      rw [hp, ea] at this
      exact this
    · have hs : frS c f s t = s := by simp [frS, hc]
      rw [hs]
      have q1 : s.1 ≤ (a + 1) * s.2 := by
        have : (a + 1) * s.2 = a * s.2 + s.2 := by grind
        omega
      have q2 : s.2 ≤ D * 20 := by omega
      have := ih s (a + 1) (D * 20) hv' (by omega) h1 q1 h3 q2
      rw [hp, ea] at this
      exact this
theorem ipow20_le {k : Nat} (h : k ≤ 5) : (20 : Int) ^ k ≤ 3200000 := by
  have h1 : 20 ^ k ≤ 20 ^ 5 := Nat.pow_le_pow_right (by decide) h
  have h2 : ((20 ^ k : Nat) : Int) ≤ ((20 ^ 5 : Nat) : Int) := Int.ofNat_le.2 h1
  rw [Int.natCast_pow] at h2
  exact Int.le_trans h2 (by decide)
theorem fr_bd {c : Bool} {f : T → Int} (hf : Nd f) {xs : List T} (hv : ∀ t ∈ xs, tvB t = true) (hl : xs.length ≤ 5) : 0 ≤ frn c f xs ∧ frn c f xs ≤ 5 * frd c f xs ∧ 1 ≤ frd c f xs ∧ frd c f xs ≤ 3200000 := by
  obtain ⟨h1, h2, h3, h4⟩ := fold_bd (c := c) hf xs (0, 1) 0 1 hv (by omega) (by simp) (by simp) (by simp) (by simp)
  refine ⟨h1, ?_, h3, ?_⟩
  · have : (0 + (xs.length : Int)) * (xs.foldl (frS c f) (0, 1)).2 ≤ 5 * (xs.foldl (frS c f) (0, 1)).2 := Int.mul_le_mul_of_nonneg_right (by omega) (by omega)
    exact Int.le_trans h2 this
  · rw [Int.one_mul] at h4
    exact Int.le_trans h4 (ipow20_le hl)

/-- both denominators together -/
theorem fold_both {f g : T → Int} : ∀ (xs : List T) (s u : Int × Int) (D : Int), (∀ t ∈ xs, tvB t = true) → 1 ≤ s.2 → 1 ≤ u.2 → s.2 * u.2 ≤ D →
    (xs.foldl (frS false f) s).2 * (xs.foldl (frS true g) u).2 ≤ D * 20 ^ xs.length := by
  intro xs
  induction xs with
  | nil => intro s u D _ _ _ h; simpa using h
  | cons t ts ih =>
    intro s u D hv h1 h2 h3
    have he := tv_every (hv t (by simp))
    have hv' : ∀ t ∈ ts, tvB t = true := fun x hx => hv x (by simp [hx])
    have hp : D * 20 * 20 ^ ts.length = D * 20 ^ (ts.length + 1) := by rw [Int.pow_succ]; ac_rfl
    have h4 := mul_ge_one h1 h2
    have h5 : s.2 * u.2 * t.every ≤ D * 20 := Int.mul_le_mul h3 he.2 (by omega) (by omega)
    rw [List.foldl_cons, List.foldl_cons, List.length_cons, ← hp]
    cases hc : t.crit
    · have e1 : frS false f s t = (s.1 * t.every + f t * s.2, s.2 * t.every) := by simp [frS, hc]
      have e2 : frS true g u t = u := by simp [frS, hc]
      rw [e1, e2]
      refine ih _ _ _ hv' (mul_ge_one h1 he.1) h2 ?_
      have : s.2 * t.every * u.2 = s.2 * u.2 * t.every := by ac_rfl
      rw [this]; exact h5
    · have e1 : frS false f s t = s := by simp [frS, hc]
      have e2 : frS true g u t = (u.1 * t.every + g t * u.2, u.2 * t.every) := by simp [frS, hc]
      rw [e1, e2]
      refine ih _ _ _ hv' h1 (mul_ge_one h2 he.1) ?_
      have : s.2 * (u.2 * t.every) = s.2 * u.2 * t.every := by ac_rfl
      rw [this]; exact h5
theorem frd_both {f g : T → Int} {xs : List T} (hv : ∀ t ∈ xs, tvB t = true) (hl : xs.length ≤ 5) : frd false f xs * frd true g xs ≤ 3200000 := by
  have := fold_both (f := f) (g := g) xs (0, 1) (0, 1) 1 hv (by simp) (by simp) (by simp)
  rw [Int.one_mul] at this
  exact Int.le_trans this (ipow20_le hl)
/-- the denominator does not lie in the need -/
theorem frd_same (c : Bool) (f g : T → Int) (xs : List T) : frd c f xs = frd c g xs := by
  have key : ∀ (ys : List T) (s u : Int × Int), s.2 = u.2 → (ys.foldl (frS c f) s).2 = (ys.foldl (frS c g) u).2 := by
    intro ys
    induction ys with
    | nil => intro s u h; exact h
    | cons t ts ih =>
      intro s u h
      rw [List.foldl_cons, List.foldl_cons]
      apply ih
      unfold frS
      split <;> simp [h]
  exact key xs _ _ rfl

/-- the least number that all periods divide -/
def LL : Int := 232792560
theorem LL_pos : 1 ≤ LL := by decide
theorem LL_div {e : Int} (h1 : 1 ≤ e) (h2 : e ≤ 20) : LL / e * e = LL := by
  have : e = 1 ∨ e = 2 ∨ e = 3 ∨ e = 4 ∨ e = 5 ∨ e = 6 ∨ e = 7 ∨ e = 8 ∨ e = 9 ∨ e = 10 ∨ e = 11 ∨ e = 12 ∨ e = 13 ∨ e = 14 ∨ e = 15 ∨ e = 16 ∨ e = 17 ∨ e = 18 ∨ e = 19 ∨ e = 20 := by omega
  rcases this with rfl | rfl | rfl | rfl | rfl | rfl | rfl | rfl | rfl | rfl | rfl | rfl | rfl | rfl | rfl | rfl | rfl | rfl | rfl | rfl <;> decide

/-- the sum of the shares, in parts of LL -/
def sc1 (c : Bool) (f : T → Int) (t : T) : Int := if t.crit = c then f t * (LL / t.every) else 0
def sc (c : Bool) (f : T → Int) (xs : List T) : Int := (xs.map (sc1 c f)).sum
theorem sc_nil (c : Bool) (f : T → Int) : sc c f [] = 0 := rfl
theorem sc_cons (c : Bool) (f : T → Int) (t : T) (xs : List T) : sc c f (t :: xs) = sc1 c f t + sc c f xs := by simp [sc]
theorem fold_sc {c : Bool} {f : T → Int} : ∀ (xs : List T) (s : Int × Int), (∀ t ∈ xs, tvB t = true) → 1 ≤ s.2 →
    (xs.foldl (frS c f) s).1 * LL * s.2 = (s.1 * LL + sc c f xs * s.2) * (xs.foldl (frS c f) s).2 := by
  intro xs
  induction xs with
  | nil => intro s _ _; simp only [List.foldl_nil, sc_nil]; grind
  | cons t ts ih =>
    intro s hv h1
    have he := tv_every (hv t (by simp))
    have hv' : ∀ t ∈ ts, tvB t = true := fun x hx => hv x (by simp [hx])
    rw [List.foldl_cons, sc_cons]
    by_cases hc : t.crit = c
    · have e1 : frS c f s t = (s.1 * t.every + f t * s.2, s.2 * t.every) := by simp [frS, hc]
      have e2 : sc1 c f t = f t * (LL / t.every) := by simp [sc1, hc]
      have hq := LL_div he.1 he.2
      have h := ih (frS c f s t) hv' (by rw [e1]; exact mul_ge_one h1 he.1)
      rw [e2]
      generalize hF : ts.foldl (frS c f) (frS c f s t) = F at h ⊢
      rw [e1] at h
      dsimp only at h
      generalize sc c f ts = Z at h ⊢
      generalize LL / t.every = q at hq ⊢
      generalize t.every = e at h he hq ⊢
      generalize f t = n at h ⊢
      have he0 : e ≠ 0 := by omega
      refine Int.eq_of_mul_eq_mul_right he0 ?_
      have k1 : F.1 * LL * s.2 * e = F.1 * LL * (s.2 * e) := by ac_rfl
      rw [k1, h]
      have k2 : n * LL = n * q * e := by rw [← hq]; ac_rfl
      have k3 : (s.1 * e + n * s.2) * LL + Z * (s.2 * e) = (s.1 * LL + (n * q + Z) * s.2) * e := by
        have : n * s.2 * LL = n * q * e * s.2 := by rw [← k2]; ac_rfl
        grind
      rw [k3]; ac_rfl
    · have e1 : frS c f s t = s := by simp [frS, hc]
      have e2 : sc1 c f t = 0 := by simp [sc1, hc]
      rw [e1, e2, Int.zero_add]
      exact ih s hv' h1
theorem fr_sc {c : Bool} {f : T → Int} {xs : List T} (hv : ∀ t ∈ xs, tvB t = true) : frn c f xs * LL = sc c f xs * frd c f xs := by
  have := fold_sc (c := c) (f := f) xs (0, 1) hv (by simp)
  simpa [frn, frd, fr] using this
theorem sc1_nonneg {c : Bool} {f : T → Int} (hf : Nd f) {t : T} (ht : tvB t = true) : 0 ≤ sc1 c f t := by
  unfold sc1
  split
  · have := hf t ht
    have := tv_every ht
    exact Int.mul_nonneg (by omega) (Int.ediv_nonneg (by decide) (by omega))
  · omega
theorem sc_nonneg {c : Bool} {f : T → Int} (hf : Nd f) {xs : List T} (hv : ∀ t ∈ xs, tvB t = true) : 0 ≤ sc c f xs := by
  induction xs with
  | nil => simp [sc]
  | cons t ts ih =>
    rw [sc_cons]
    have h1 := sc1_nonneg (c := c) hf (hv t (by simp))
    have h2 := ih (fun x hx => hv x (by simp [hx]))
    omega
theorem sc_perm {c : Bool} {f : T → Int} {xs ys : List T} (h : xs.Perm ys) : sc c f xs = sc c f ys := by
  induction h with
  | nil => rfl
  | cons x _ ih => rw [sc_cons, sc_cons, ih]
  | swap x y l => rw [sc_cons, sc_cons, sc_cons, sc_cons]; omega
  | trans _ _ h1 h2 => rw [h1, h2]
theorem sc_append (c : Bool) (f : T → Int) (xs ys : List T) : sc c f (xs ++ ys) = sc c f xs + sc c f ys := by
  induction xs with
  | nil => rw [List.nil_append, sc_nil, Int.zero_add]
  | cons t ts ih => rw [List.cons_append, sc_cons, sc_cons, ih]; omega

/-- the share of the tasks that are critical, or are not -/
def shr (c : Bool) (f : T → Int) (xs : List T) : S := if svB xs = true then red (frn c f xs) (frd c f xs) else ⟨0, 0⟩
theorem shr_no {c : Bool} {f : T → Int} {xs : List T} (h : svB xs = false) : shr c f xs = ⟨0, 0⟩ := by simp [shr, h]
theorem shr_yes {c : Bool} {f : T → Int} {xs : List T} (h : svB xs = true) : shr c f xs = red (frn c f xs) (frd c f xs) := by simp [shr, h]
theorem sv_all {xs : List T} (h : svB xs = true) : xs.length ≤ 5 ∧ ∀ t ∈ xs, tvB t = true := by simpa [svB, List.all_eq_true] using h
theorem shr_sc {c : Bool} {f : T → Int} (hf : Nd f) {xs : List T} (h : svB xs = true) : shr c f xs = red (sc c f xs) LL := by
  obtain ⟨hl, hv⟩ := sv_all h
  obtain ⟨h1, h2, h3, h4⟩ := fr_bd (c := c) hf hv hl
  rw [shr_yes h]
  exact red_cross h1 h3 (sc_nonneg hf hv) LL_pos (fr_sc hv)
/-- a fraction in small numbers -/
def Sm (s : S) : Prop := 0 ≤ s.num ∧ s.num ≤ 1000000000 ∧ 1 ≤ s.den ∧ s.den ≤ 1000000000
theorem shr_bd {c : Bool} {f : T → Int} (hf : Nd f) {xs : List T} (h : svB xs = true) : 0 ≤ (shr c f xs).num ∧ (shr c f xs).num ≤ 5 * frd c f xs ∧ 1 ≤ (shr c f xs).den ∧ (shr c f xs).den ≤ frd c f xs ∧ 1 ≤ frd c f xs ∧ frd c f xs ≤ 3200000 := by
  obtain ⟨hl, hv⟩ := sv_all h
  obtain ⟨h1, h2, h3, h4⟩ := fr_bd (c := c) hf hv hl
  rw [shr_yes h]
  have := red_num_le h1 h3
  exact ⟨red_num0 h1 h3, by omega, red_den1 h1 h3, red_den_le h1 h3, h3, h4⟩
theorem shr_sm {c : Bool} {f : T → Int} (hf : Nd f) {xs : List T} (h : svB xs = true) : Sm (shr c f xs) := by
  obtain ⟨h1, h2, h3, h4, h5, h6⟩ := shr_bd (c := c) hf h
  exact ⟨h1, by omega, h3, by omega⟩

/-- critical tasks alone, with their high needs -/
def critL (xs : List T) : List T := (xs.filter (fun t => t.crit)).map (fun t => { t with low := t.high })
theorem critL_snoc_yes {xs : List T} {t : T} (h : t.crit = true) : critL (xs ++ [t]) = critL xs ++ [{ t with low := t.high }] := by simp [critL, List.filter_append, h]
theorem critL_snoc_no {xs : List T} {t : T} (h : t.crit = false) : critL (xs ++ [t]) = critL xs := by simp [critL, List.filter_append, h]
theorem critL_mem {xs : List T} {u : T} (h : u ∈ critL xs) : ∃ t ∈ xs, t.crit = true ∧ u = { t with low := t.high } := by
  obtain ⟨t, ht, rfl⟩ := List.mem_map.1 h
  obtain ⟨h1, h2⟩ := List.mem_filter.1 ht
  exact ⟨t, h1, h2, rfl⟩
theorem critL_tv {t : T} (h : tvB t = true) (hc : t.crit = true) : tvB { t with low := t.high } = true := by
  have := (tvB_iff t).1 h
  exact (tvB_iff _).2 ⟨by dsimp only; omega, by dsimp only; omega, by dsimp only; omega, by dsimp only; omega, by dsimp only; omega, Or.inl hc⟩
theorem critL_len (xs : List T) : (critL xs).length ≤ xs.length := by
  rw [critL, List.length_map]; exact List.length_filter_le _ _
theorem critL_sv {xs : List T} (h : svB xs = true) : svB (critL xs) = true := by
  obtain ⟨hl, hv⟩ := sv_all h
  have h2 : ∀ t ∈ critL xs, tvB t = true := fun u hu => by
    obtain ⟨t, ht, hc, rfl⟩ := critL_mem hu
    exact critL_tv (hv t ht) hc
  have h3 := critL_len xs
  simp only [svB, Bool.and_eq_true, decide_eq_true_eq, List.all_eq_true]
  exact ⟨by omega, h2⟩
theorem fold_crit : ∀ (xs : List T) (s : Int × Int), (critL xs).foldl (frS true T.low) s = xs.foldl (frS true T.high) s := by
  intro xs
  induction xs with
  | nil => intro s; rfl
  | cons t ts ih =>
    intro s
    cases hc : t.crit
    · have : critL (t :: ts) = critL ts := by simp [critL, hc]
      rw [this, List.foldl_cons, ih]
      congr 1
      simp [frS, hc]
    · have : critL (t :: ts) = { t with low := t.high } :: critL ts := by simp [critL, hc]
      rw [this, List.foldl_cons, List.foldl_cons, ih]
      congr 1
theorem shr_crit {xs : List T} (h : svB xs = true) : shr true T.low (critL xs) = shr true T.high xs := by
  rw [shr_yes h, shr_yes (critL_sv h)]
  simp only [frn, frd, fr, fold_crit]

end Go.Proofs.Ytbfdpegjflhboaa
