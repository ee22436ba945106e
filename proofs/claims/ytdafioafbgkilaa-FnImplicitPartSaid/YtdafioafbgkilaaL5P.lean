/- Plain facts on plain scheduling, factors, virtual deadlines and loads, in whole numbers. Condition: the tasks are valid. -/
import Derived.Test.YtdafioafbgkilaaFr
namespace Go.Proofs.Ytdafioafbgkilaa
set_option linter.unusedVariables false

def plusV (a b : S) : S := red (a.num * b.den + b.num * a.den) (a.den * b.den)
def timesV (a b : S) : S := red (a.num * b.num) (a.den * b.den)
theorem plusV_comm (a b : S) : plusV a b = plusV b a := by
  unfold plusV
  rw [Int.add_comm, Int.mul_comm a.den b.den]
theorem fits_red {n d : Int} (hn : 0 ≤ n) (hd : 1 ≤ d) : decide ((red n d).num ≤ (red n d).den) = decide (n ≤ d) := by
  obtain ⟨a, b, g, h, rfl, rfl, _, hb, hg⟩ := red_parts hn hd
  rw [h]
  show decide ((a : Int) ≤ (b : Int)) = decide ((g : Int) * a ≤ g * b)
  rw [decide_eq_decide]
  constructor
  · intro h1; exact Int.mul_le_mul_of_nonneg_left h1 (by omega)
  · intro h1; exact Int.le_of_mul_le_mul_left h1 (by omega)
theorem full_red {n d : Int} (hn : 0 ≤ n) (hd : 1 ≤ d) : (red n d).num = (red n d).den ↔ n = d := by
  obtain ⟨a, b, g, h, rfl, rfl, _, hb, hg⟩ := red_parts hn hd
  rw [h]
  show (a : Int) = (b : Int) ↔ (g : Int) * a = g * b
  constructor
  · intro h1; rw [h1]
  · intro h1; exact Int.eq_of_mul_eq_mul_left (by omega) h1
theorem red_one : red 1 1 = ⟨1, 1⟩ := by decide
theorem red_is_one {n d : Int} (hn : 0 ≤ n) (hd : 1 ≤ d) : red n d = ⟨1, 1⟩ ↔ n = d := by
  constructor
  · intro h
    have := (full_red hn hd).1 (by rw [h])
    exact this
  · intro h
    rw [← red_one]
    exact red_cross hn hd (by omega) (by omega) (by omega)

section
variable {xs : List T} (h : svB xs = true)
include h
theorem plus_shr {c c' : Bool} {f g : T → Int} (hf : Nd f) (hg : Nd g) : plusV (shr c f xs) (shr c' g xs) = red (sc c f xs + sc c' g xs) LL := by
  obtain ⟨hl, hv⟩ := sv_all h
  have a0 := sc_nonneg (c := c) hf hv
  have b0 := sc_nonneg (c := c') hg hv
  have hL := LL_pos
  rw [shr_sc hf h, shr_sc hg h, plusV, red_plus a0 hL b0 hL]
  refine red_cross ?_ (mul_ge_one hL hL) (by omega) hL ?_
  · exact Int.add_nonneg (Int.mul_nonneg a0 (by omega)) (Int.mul_nonneg b0 (by omega))
  · grind
theorem plus_sm {f g : T → Int} (hf : Nd f) (hg : Nd g) : Sm (plusV (shr false f xs) (shr true g xs)) := by
  obtain ⟨hl, hv⟩ := sv_all h
  obtain ⟨a1, a2, a3, a4, a5, a6⟩ := shr_bd (c := false) hf h
  obtain ⟨b1, b2, b3, b4, b5, b6⟩ := shr_bd (c := true) hg h
  have hd := frd_both (f := f) (g := g) hv hl
  have n1 : (shr false f xs).num * (shr true g xs).den ≤ 5 * frd false f xs * frd true g xs := Int.mul_le_mul a2 b4 (by omega) (by omega)
  have n2 : (shr true g xs).num * (shr false f xs).den ≤ 5 * frd true g xs * frd false f xs := Int.mul_le_mul b2 a4 (by omega) (by omega)
  have n3 : (shr false f xs).den * (shr true g xs).den ≤ frd false f xs * frd true g xs := Int.mul_le_mul a4 b4 (by omega) (by omega)
  have p1 : 0 ≤ (shr false f xs).num * (shr true g xs).den := Int.mul_nonneg a1 (by omega)
  have p2 : 0 ≤ (shr true g xs).num * (shr false f xs).den := Int.mul_nonneg b1 (by omega)
  have p3 := mul_ge_one a3 b3
  have e1 : 5 * frd false f xs * frd true g xs = 5 * (frd false f xs * frd true g xs) := by ac_rfl
  have e2 : 5 * frd true g xs * frd false f xs = 5 * (frd false f xs * frd true g xs) := by ac_rfl
  rw [e1] at n1
  rw [e2] at n2
  have k1 := red_num_le (Int.add_nonneg p1 p2) p3
  have k2 := red_den_le (Int.add_nonneg p1 p2) p3
  exact ⟨red_num0 (Int.add_nonneg p1 p2) p3, by unfold plusV; omega, red_den1 (Int.add_nonneg p1 p2) p3, by unfold plusV; omega⟩
/-- what is reckoned for the factor -/
theorem fact_bd {f g : T → Int} (hf : Nd f) (hg : Nd g) (hlt : sc false f xs < LL) :
    (shr false f xs).num < (shr false f xs).den ∧ 0 ≤ (shr true g xs).num * (shr false f xs).den ∧ (shr true g xs).num * (shr false f xs).den ≤ 16000000 ∧
    1 ≤ (shr true g xs).den * ((shr false f xs).den - (shr false f xs).num) ∧ (shr true g xs).den * ((shr false f xs).den - (shr false f xs).num) ≤ 3200000 ∧
    red ((shr true g xs).num * (shr false f xs).den) ((shr true g xs).den * ((shr false f xs).den - (shr false f xs).num)) = red (sc true g xs) (LL - sc false f xs) := by
  obtain ⟨hl, hv⟩ := sv_all h
  obtain ⟨a1, a2, a3, a4, a5, a6⟩ := shr_bd (c := false) hf h
  obtain ⟨b1, b2, b3, b4, b5, b6⟩ := shr_bd (c := true) hg h
  have hd := frd_both (f := f) (g := g) hv hl
  have hL := LL_pos
  have s0 := sc_nonneg (c := false) hf hv
  have t0 := sc_nonneg (c := true) hg hv
  have ea : (shr false f xs).num * LL = sc false f xs * (shr false f xs).den := by rw [shr_sc hf h]; exact red_same s0 hL
  have eb : (shr true g xs).num * LL = sc true g xs * (shr true g xs).den := by rw [shr_sc hg h]; exact red_same t0 hL
  have hlt' : (shr false f xs).num < (shr false f xs).den := by
    have h1 : (shr false f xs).num * LL < (shr false f xs).den * LL := by
      rw [ea, Int.mul_comm]
      exact Int.mul_lt_mul_of_pos_left hlt (by omega)
    exact Int.lt_of_mul_lt_mul_right h1 (by omega)
  generalize shr false f xs = a at *
  generalize shr true g xs = b at *
  have p1 : 0 ≤ b.num * a.den := Int.mul_nonneg b1 (by omega)
  have n1 : b.num * a.den ≤ 5 * frd true g xs * frd false f xs := Int.mul_le_mul b2 a4 (by omega) (by omega)
  have e1 : 5 * frd true g xs * frd false f xs = 5 * (frd false f xs * frd true g xs) := by ac_rfl
  rw [e1] at n1
  have n2 : b.den * (a.den - a.num) ≤ frd true g xs * frd false f xs := Int.mul_le_mul b4 (by omega) (by omega) (by omega)
  have e2 : frd true g xs * frd false f xs = frd false f xs * frd true g xs := Int.mul_comm _ _
  rw [e2] at n2
  have p2 : 1 ≤ b.den * (a.den - a.num) := mul_ge_one b3 (by omega)
  refine ⟨hlt', p1, by omega, p2, by omega, red_cross p1 p2 t0 (by omega) ?_⟩
  refine Int.eq_of_mul_eq_mul_right (show LL ≠ 0 by omega) ?_
  generalize sc false f xs = X at *
  generalize sc true g xs = Y at *
  generalize LL = L at *
  have k1 : b.num * a.den * (L - X) * L = b.num * L * (a.den * (L - X)) := by ac_rfl
  have k2 : Y * (b.den * (a.den - a.num)) * L = Y * b.den * (a.den * L - a.num * L) := by grind
  rw [k1, k2, eb, ea]
  grind
/-- what is reckoned for the high mode -/
theorem virt_bd {f g u : T → Int} (hf : Nd f) (hg : Nd g) (hu : Nd u) (hlt : sc false f xs < LL) :
    Sm (red (sc true g xs) (LL - sc false f xs)) ∧ Sm (timesV (red (sc true g xs) (LL - sc false f xs)) (shr false f xs)) ∧
    Sm (plusV (timesV (red (sc true g xs) (LL - sc false f xs)) (shr false f xs)) (shr true u xs)) ∧
    plusV (timesV (red (sc true g xs) (LL - sc false f xs)) (shr false f xs)) (shr true u xs) = red (sc true g xs * sc false f xs + sc true u xs * (LL - sc false f xs)) (LL * (LL - sc false f xs)) := by
  obtain ⟨hl, hv⟩ := sv_all h
  obtain ⟨fa, fb, fc, fd, fe, ff⟩ := fact_bd h hf hg hlt
  obtain ⟨a1, a2, a3, a4, a5, a6⟩ := shr_bd (c := false) hf h
  obtain ⟨b1, b2, b3, b4, b5, b6⟩ := shr_bd (c := true) hg h
  obtain ⟨u1, u2, u3, u4, u5, u6⟩ := shr_bd (c := true) hu h
  have hd := frd_both (f := f) (g := u) hv hl
  have hdg := frd_same true g u xs
  have hL := LL_pos
  have s0 := sc_nonneg (c := false) hf hv
  have t0 := sc_nonneg (c := true) hg hv
  have v0 := sc_nonneg (c := true) hu hv
  have ea : (shr false f xs).num * LL = sc false f xs * (shr false f xs).den := by rw [shr_sc hf h]; exact red_same s0 hL
  have eb : (shr true g xs).num * LL = sc true g xs * (shr true g xs).den := by rw [shr_sc hg h]; exact red_same t0 hL
  have eu : (shr true u xs).num * LL = sc true u xs * (shr true u xs).den := by rw [shr_sc hu h]; exact red_same v0 hL
  have ru : red (shr true u xs).num (shr true u xs).den = shr true u xs := by
    rw [shr_sc hu h]; exact red_idem v0 hL
  have ra : red (shr false f xs).num (shr false f xs).den = shr false f xs := by
    rw [shr_sc hf h]; exact red_idem s0 hL
  have da0 : (shr false f xs).den = (red (frn false f xs) (frd false f xs)).den := by rw [shr_yes h]
  -- the critical shares over one denominator
  obtain ⟨g1, g2, g3, g4⟩ := fr_bd (c := true) hg hv hl
  obtain ⟨w1, w2, w3, w4⟩ := fr_bd (c := true) hu hv hl
  have eg : frn true g xs * LL = sc true g xs * frd true g xs := fr_sc hv
  have ew : frn true u xs * LL = sc true u xs * frd true u xs := fr_sc hv
  rw [hdg] at eg g2 g3 g4
  rw [← ff]
  generalize hA : shr false f xs = a at *
  generalize hB : shr true g xs = b at *
  generalize hU : shr true u xs = c at *
  have q1 : 1 ≤ a.den - a.num := by omega
  have x0 := red_num0 fb fd
  have x1 := red_den1 fb fd
  have x2 := red_num_le fb fd
  have x3 := red_den_le fb fd
  have hX : Sm (red (b.num * a.den) (b.den * (a.den - a.num))) := ⟨x0, by omega, x1, by omega⟩
  -- the product
  have tv : timesV (red (b.num * a.den) (b.den * (a.den - a.num))) a = red (b.num * a.num) (b.den * (a.den - a.num)) := by
    have h1 : timesV (red (b.num * a.den) (b.den * (a.den - a.num))) a = red (b.num * a.den * a.num) (b.den * (a.den - a.num) * a.den) := by
      have := red_times fb fd a1 a3
      rw [ra] at this
      exact this
    rw [h1]
    refine red_cross ?_ (mul_ge_one fd a3) ?_ fd ?_
    · exact Int.mul_nonneg fb a1
    · exact Int.mul_nonneg b1 a1
    · ac_rfl
  have t1 : 0 ≤ b.num * a.num := Int.mul_nonneg b1 a1
  have t2 : b.num * a.num ≤ b.num * a.den := Int.mul_le_mul_of_nonneg_left (by omega) b1
  have t3 := red_num_le t1 fd
  have t4 := red_den_le t1 fd
  have hT : Sm (timesV (red (b.num * a.den) (b.den * (a.den - a.num))) a) := by
    rw [tv]; exact ⟨red_num0 t1 fd, by omega, red_den1 t1 fd, by omega⟩
  -- the sum, over the denominator of the critical shares times what others leave
  have hval : plusV (timesV (red (b.num * a.den) (b.den * (a.den - a.num))) a) c = red (b.num * a.num * c.den + c.num * (b.den * (a.den - a.num))) (b.den * (a.den - a.num) * c.den) := by
    rw [tv]
    have := red_plus t1 fd u1 u3
    rw [ru] at this
    exact this
  have k0 : 0 ≤ b.num * a.num * c.den + c.num * (b.den * (a.den - a.num)) := Int.add_nonneg (Int.mul_nonneg t1 (by omega)) (Int.mul_nonneg u1 (by omega))
  have k1 := mul_ge_one fd u3
  have hsum : red (b.num * a.num * c.den + c.num * (b.den * (a.den - a.num))) (b.den * (a.den - a.num) * c.den) = red (frn true g xs * a.num + frn true u xs * (a.den - a.num)) (frd true u xs * (a.den - a.num)) := by
    refine red_cross k0 k1 (Int.add_nonneg (Int.mul_nonneg g1 a1) (Int.mul_nonneg w1 (by omega))) (mul_ge_one w3 q1) ?_
    have hbg : b.num * frd true u xs = frn true g xs * b.den := by
      refine Int.eq_of_mul_eq_mul_right (show LL ≠ 0 by omega) ?_
      have e1 : b.num * frd true u xs * LL = b.num * LL * frd true u xs := by ac_rfl
      have e2 : frn true g xs * b.den * LL = frn true g xs * LL * b.den := by ac_rfl
      rw [e1, e2, eb, eg]; ac_rfl
    have hcu : c.num * frd true u xs = frn true u xs * c.den := by
      refine Int.eq_of_mul_eq_mul_right (show LL ≠ 0 by omega) ?_
      have e1 : c.num * frd true u xs * LL = c.num * LL * frd true u xs := by ac_rfl
      have e2 : frn true u xs * c.den * LL = frn true u xs * LL * c.den := by ac_rfl
      rw [e1, e2, eu, ew]; ac_rfl
    generalize frd true u xs = Q at *
    generalize frn true g xs = G at *
    generalize frn true u xs = U at *
    generalize a.den - a.num = r at *
    have e1 : (b.num * a.num * c.den + c.num * (b.den * r)) * (Q * r) = b.num * Q * (a.num * c.den * r) + c.num * Q * (b.den * r * r) := by grind
    rw [e1, hbg, hcu]
    grind
  have m0 : 0 ≤ frn true g xs * a.num + frn true u xs * (a.den - a.num) := Int.add_nonneg (Int.mul_nonneg g1 a1) (Int.mul_nonneg w1 (by omega))
  have m1 := mul_ge_one w3 q1
  have m2 : frd true u xs * (a.den - a.num) ≤ 3200000 := by
    have h1 : frd true u xs * (a.den - a.num) ≤ frd true u xs * frd false f xs := Int.mul_le_mul_of_nonneg_left (by omega) (by omega)
    rw [Int.mul_comm (frd true u xs) (frd false f xs)] at h1
    omega
  have m3 : frn true g xs * a.num + frn true u xs * (a.den - a.num) ≤ 32000000 := by
    have h1 : frn true g xs * a.num ≤ 5 * frd true u xs * frd false f xs := Int.mul_le_mul g2 (by omega) a1 (by omega)
    have h2 : frn true u xs * (a.den - a.num) ≤ 5 * frd true u xs * frd false f xs := Int.mul_le_mul w2 (by omega) (by omega) (by omega)
    have e1 : 5 * frd true u xs * frd false f xs = 5 * (frd false f xs * frd true u xs) := by ac_rfl
    rw [e1] at h1 h2
    omega
  have m4 := red_num_le m0 m1
  have m5 := red_den_le m0 m1
  refine ⟨hX, hT, ?_, ?_⟩
  · rw [hval, hsum]
    exact ⟨red_num0 m0 m1, by omega, red_den1 m0 m1, by omega⟩
  · rw [hval]
    have z1 : 1 ≤ LL - sc false f xs := by omega
    refine red_cross k0 k1 ?_ (mul_ge_one hL z1) ?_
    · exact Int.add_nonneg (Int.mul_nonneg t0 s0) (Int.mul_nonneg v0 (by omega))
    · refine Int.eq_of_mul_eq_mul_right (show LL * LL ≠ 0 from Int.mul_ne_zero (by omega) (by omega)) ?_
      generalize sc false f xs = X at *
      generalize sc true g xs = Y at *
      generalize sc true u xs = Z at *
      generalize LL = L at *
      have e1 : (b.num * a.num * c.den + c.num * (b.den * (a.den - a.num))) * (L * (L - X)) * (L * L) = (b.num * L * (a.num * L) * c.den + c.num * L * (b.den * (a.den * L - a.num * L))) * (L * (L - X)) := by grind
      rw [e1, eb, ea, eu]
      grind
end

def loA (xs : List T) : Int := sc false T.low xs
def loB (xs : List T) : Int := sc true T.low xs
def hiH (xs : List T) : Int := sc true T.high xs
def plainB (xs : List T) : Bool := impB xs && decide (loA xs + hiH xs ≤ LL)
def factB (xs : List T) : Bool := impB xs && (plainB xs || (decide (loA xs + loB xs ≤ LL) && !decide (loA xs = LL)))
def factV (xs : List T) : S := if factB xs = true then (if plainB xs = true then ⟨1, 1⟩ else red (loB xs) (LL - loA xs)) else ⟨0, 0⟩
def virtB (xs : List T) : Bool := factB xs && (plainB xs || decide (loB xs * loA xs + hiH xs * (LL - loA xs) ≤ LL * (LL - loA xs)))
def loadV (xs : List T) : S := if svB xs = true then (if loA xs + loB xs < hiH xs then red (hiH xs) LL else red (loA xs + loB xs) LL) else ⟨0, 0⟩

end Go.Proofs.Ytdafioafbgkilaa
