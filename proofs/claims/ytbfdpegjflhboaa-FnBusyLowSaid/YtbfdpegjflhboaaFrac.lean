/- Plain facts on reduced fractions. Conditions: numerators are not negative, denominators are at least 1. -/
import Derived.Test.YtbfdpegjflhboaaBase
namespace Go.Proofs.Ytbfdpegjflhboaa
set_option linter.unusedVariables false

/-- the fraction n/d with no common divisor above 1 -/
def red (n d : Int) : S := ⟨n / (Int.gcd n d : Int), d / (Int.gcd n d : Int)⟩

theorem gcd_pos {n d : Int} (hd : 1 ≤ d) : 1 ≤ (Int.gcd n d : Int) := by
  have h : 0 < Int.gcd n d := Int.gcd_pos_of_ne_zero_right _ (by omega)
  omega

theorem nat_cross {a b a' b' : Nat} (h : a.gcd b = 1) (h' : a'.gcd b' = 1) (hb : 0 < b) (hb' : 0 < b') (e : a * b' = a' * b) : a = a' ∧ b = b' := by
  have h1 : b ∣ b' := by
    have h2 : b ∣ a * b' := ⟨a', by rw [e, Nat.mul_comm]⟩
    exact Nat.Coprime.dvd_of_dvd_mul_left (Nat.Coprime.symm h) h2
  have h3 : b' ∣ b := by
    have h4 : b' ∣ a' * b := ⟨a, by rw [← e, Nat.mul_comm]⟩
    exact Nat.Coprime.dvd_of_dvd_mul_left (Nat.Coprime.symm h') h4
  have hbb := Nat.dvd_antisymm h1 h3
  subst hbb
  exact ⟨Nat.eq_of_mul_eq_mul_right hb e, rfl⟩

/-- what red hands back, in numbers -/
theorem red_parts {n d : Int} (hn : 0 ≤ n) (hd : 1 ≤ d) : ∃ a b g : Nat, red n d = ⟨(a : Int), (b : Int)⟩ ∧ n = (g : Int) * a ∧ d = (g : Int) * b ∧ a.gcd b = 1 ∧ 0 < b ∧ 0 < g := by
  obtain ⟨N, rfl⟩ := Int.eq_ofNat_of_zero_le hn
  obtain ⟨D, rfl⟩ := Int.eq_ofNat_of_zero_le (show (0 : Int) ≤ d by omega)
  have hD : 0 < D := by omega
  have hg : 0 < N.gcd D := Nat.gcd_pos_of_pos_right _ hD
  obtain ⟨a, ha⟩ := Nat.gcd_dvd_left N D
  obtain ⟨b, hb⟩ := Nat.gcd_dvd_right N D
  have hc : a.gcd b = 1 := by
    have h1 : (N.gcd D * a).gcd (N.gcd D * b) = N.gcd D * a.gcd b := Nat.gcd_mul_left _ _ _
    rw [← ha, ← hb] at h1
    exact Nat.eq_of_mul_eq_mul_left hg (by omega)
  refine ⟨a, b, N.gcd D, ?_, by rw [← Int.natCast_mul, ← ha], by rw [← Int.natCast_mul, ← hb], hc, ?_, hg⟩
  · have e : Int.gcd (N : Int) (D : Int) = N.gcd D := rfl
    have e1 : N / N.gcd D = a := Nat.div_eq_of_eq_mul_right hg ha
    have e2 : D / N.gcd D = b := Nat.div_eq_of_eq_mul_right hg hb
    unfold red
    rw [e, ← Int.natCast_ediv, ← Int.natCast_ediv, e1, e2]
  · rcases Nat.eq_zero_or_pos b with h0 | h0
    · subst h0; omega
    · exact h0

theorem red_cross {n d n' d' : Int} (hn : 0 ≤ n) (hd : 1 ≤ d) (hn' : 0 ≤ n') (hd' : 1 ≤ d') (e : n * d' = n' * d) : red n d = red n' d' := by
  obtain ⟨a, b, g, h, rfl, rfl, hc, hb, hg⟩ := red_parts hn hd
  obtain ⟨a', b', g', h', rfl, rfl, hc', hb', hg'⟩ := red_parts hn' hd'
  have e1 : g * a * (g' * b') = g' * a' * (g * b) := by exact_mod_cast e
  have e2 : a * b' = a' * b := by
    have : (g * g') * (a * b') = (g * g') * (a' * b) := by
      rw [show (g * g') * (a * b') = g * a * (g' * b') by ac_rfl, e1]; ac_rfl
    exact Nat.eq_of_mul_eq_mul_left (Nat.mul_pos hg hg') this
  obtain ⟨rfl, rfl⟩ := nat_cross hc hc' hb hb' e2
  rw [h, h']

/-- the fraction is the same -/
theorem red_same {n d : Int} (hn : 0 ≤ n) (hd : 1 ≤ d) : (red n d).num * d = n * (red n d).den := by
  obtain ⟨a, b, g, h, rfl, rfl, _⟩ := red_parts hn hd
  rw [h]
  show (a : Int) * (g * b) = g * a * b
  ac_rfl
theorem red_num0 {n d : Int} (hn : 0 ≤ n) (hd : 1 ≤ d) : 0 ≤ (red n d).num := by
  obtain ⟨a, b, g, h, _⟩ := red_parts hn hd
  rw [h]; show (0 : Int) ≤ (a : Int); omega
theorem red_den1 {n d : Int} (hn : 0 ≤ n) (hd : 1 ≤ d) : 1 ≤ (red n d).den := by
  obtain ⟨a, b, g, h, _, _, _, hb, _⟩ := red_parts hn hd
  rw [h]; show (1 : Int) ≤ (b : Int); omega
theorem red_den_le {n d : Int} (hn : 0 ≤ n) (hd : 1 ≤ d) : (red n d).den ≤ d := by
  obtain ⟨a, b, g, h, rfl, rfl, _, hb, hg⟩ := red_parts hn hd
  rw [h]; show (b : Int) ≤ g * b
  have : 1 * b ≤ g * b := Nat.mul_le_mul_right _ hg
  rw [Nat.one_mul] at this
  exact_mod_cast this
theorem red_num_le {n d : Int} (hn : 0 ≤ n) (hd : 1 ≤ d) : (red n d).num ≤ n := by
  obtain ⟨a, b, g, h, rfl, rfl, _, hb, hg⟩ := red_parts hn hd
  rw [h]; show (a : Int) ≤ g * a
  have : 1 * a ≤ g * a := Nat.mul_le_mul_right _ hg
  rw [Nat.one_mul] at this
  exact_mod_cast this
theorem red_idem {n d : Int} (hn : 0 ≤ n) (hd : 1 ≤ d) : red (red n d).num (red n d).den = red n d :=
  red_cross (red_num0 hn hd) (red_den1 hn hd) hn hd (red_same hn hd)
theorem red_inj {n d n' d' : Int} (hn : 0 ≤ n) (hd : 1 ≤ d) (hn' : 0 ≤ n') (hd' : 1 ≤ d') (e : red n d = red n' d') : n * d' = n' * d := by
  obtain ⟨a, b, g, h, rfl, rfl, _⟩ := red_parts hn hd
  obtain ⟨a', b', g', h', rfl, rfl, _⟩ := red_parts hn' hd'
  rw [h, h'] at e
  injection e with e1 e2
  have e1 : a = a' := by omega
  have e2 : b = b' := by omega
  subst e1 e2
  ac_rfl

/-- a fraction in small numbers that is reduced -/
def isShare (s : S) : Prop := 0 ≤ s.num ∧ s.num ≤ 1000000000 ∧ 1 ≤ s.den ∧ s.den ≤ 1000000000 ∧ red s.num s.den = s
instance (s : S) : Decidable (isShare s) := by unfold isShare; infer_instance
def shareB (s : S) : Bool := decide (isShare s)

theorem red_share {n d : Int} (hn : 0 ≤ n) (hd : 1 ≤ d) (h1 : (red n d).num ≤ 1000000000) (h2 : (red n d).den ≤ 1000000000) : shareB (red n d) = true :=
  decide_eq_true ⟨red_num0 hn hd, h1, red_den1 hn hd, h2, red_idem hn hd⟩

/-- comparing fractions is comparing over crosswise products -/
theorem red_le {n d n' d' : Int} (hn : 0 ≤ n) (hd : 1 ≤ d) (hn' : 0 ≤ n') (hd' : 1 ≤ d') : (red n d).num * (red n' d').den ≤ (red n' d').num * (red n d).den ↔ n * d' ≤ n' * d := by
  obtain ⟨a, b, g, h, rfl, rfl, _, hb, hg⟩ := red_parts hn hd
  obtain ⟨a', b', g', h', rfl, rfl, _, hb', hg'⟩ := red_parts hn' hd'
  rw [h, h']
  show (a : Int) * b' ≤ a' * b ↔ (g : Int) * a * (g' * b') ≤ g' * a' * (g * b)
  have e1 : (g : Int) * a * (g' * b') = ((g * g' : Nat) : Int) * (a * b') := by rw [Int.natCast_mul]; ac_rfl
  have e2 : (g' : Int) * a' * (g * b) = ((g * g' : Nat) : Int) * (a' * b) := by rw [Int.natCast_mul]; ac_rfl
  rw [e1, e2]
  have hp : 0 < ((g * g' : Nat) : Int) := by exact_mod_cast Nat.mul_pos hg hg'
  constructor
  · intro hl; exact Int.mul_le_mul_of_nonneg_left hl (by omega)
  · intro hl; exact Int.le_of_mul_le_mul_left hl hp
theorem red_lt {n d n' d' : Int} (hn : 0 ≤ n) (hd : 1 ≤ d) (hn' : 0 ≤ n') (hd' : 1 ≤ d') : (red n d).num * (red n' d').den < (red n' d').num * (red n d).den ↔ n * d' < n' * d := by
  have h := red_le hn' hd' hn hd
  constructor
  · intro h1
    by_cases h2 : n * d' < n' * d
    · exact h2
    · have := h.2 (by omega); omega
  · intro h1
    by_cases h2 : (red n d).num * (red n' d').den < (red n' d').num * (red n d).den
    · exact h2
    · have := h.1 (by omega); omega

/-- the sum of two fractions -/
theorem red_plus {n d n' d' : Int} (hn : 0 ≤ n) (hd : 1 ≤ d) (hn' : 0 ≤ n') (hd' : 1 ≤ d') :
    red ((red n d).num * (red n' d').den + (red n' d').num * (red n d).den) ((red n d).den * (red n' d').den) = red (n * d' + n' * d) (d * d') := by
  have a0 := red_num0 hn hd
  have b0 := red_den1 hn hd
  have a1 := red_num0 hn' hd'
  have b1 := red_den1 hn' hd'
  have s0 := red_same hn hd
  have s1 := red_same hn' hd'
  generalize (red n d).num = a at *
  generalize (red n d).den = b at *
  generalize (red n' d').num = a' at *
  generalize (red n' d').den = b' at *
  refine red_cross ?_ ?_ ?_ ?_ ?_
  · exact Int.add_nonneg (Int.mul_nonneg a0 (by omega)) (Int.mul_nonneg a1 (by omega))
  · have := Int.mul_pos (show 0 < b by omega) (show 0 < b' by omega); omega
  · exact Int.add_nonneg (Int.mul_nonneg hn (by omega)) (Int.mul_nonneg hn' (by omega))
  · have := Int.mul_pos (show 0 < d by omega) (show 0 < d' by omega); omega
  · grind
theorem red_times {n d n' d' : Int} (hn : 0 ≤ n) (hd : 1 ≤ d) (hn' : 0 ≤ n') (hd' : 1 ≤ d') :
    red ((red n d).num * (red n' d').num) ((red n d).den * (red n' d').den) = red (n * n') (d * d') := by
  have a0 := red_num0 hn hd
  have b0 := red_den1 hn hd
  have a1 := red_num0 hn' hd'
  have b1 := red_den1 hn' hd'
  have s0 := red_same hn hd
  have s1 := red_same hn' hd'
  generalize (red n d).num = a at *
  generalize (red n d).den = b at *
  generalize (red n' d').num = a' at *
  generalize (red n' d').den = b' at *
  refine red_cross ?_ ?_ ?_ ?_ ?_
  · exact Int.mul_nonneg a0 a1
  · have := Int.mul_pos (show 0 < b by omega) (show 0 < b' by omega); omega
  · exact Int.mul_nonneg hn hn'
  · have := Int.mul_pos (show 0 < d by omega) (show 0 < d' by omega); omega
  · grind

end Go.Proofs.Ytbfdpegjflhboaa
