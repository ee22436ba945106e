/- Plain facts on demands and responses: least fixed points of what the tasks ahead want in a window. Condition: the tasks are valid. -/
import Derived.Test.YtbfdpegjflhboaaFr
import Derived.Test.YtbfdpegjflhboaaFix
namespace Go.Proofs.Ytbfdpegjflhboaa
set_option linter.unusedVariables false

/-- the demand of a task in a window -/
def dem (hi : Bool) (t : T) (w : Int) : Int := (w + t.every - 1) / t.every * need hi t

theorem need_bd {hi : Bool} {t : T} (h : tvB t = true) : 1 ≤ need hi t ∧ need hi t ≤ t.every := nd_need hi t h
theorem need_le {hi : Bool} {t : T} (h : tvB t = true) : t.low ≤ need hi t ∧ need hi t ≤ t.high := by
  have := (tvB_iff t).1 h
  cases hi <;> simp [need] <;> omega
theorem dem_nonneg {hi : Bool} {t : T} (h : tvB t = true) {w : Int} (hw : 0 ≤ w) : 0 ≤ dem hi t w := by
  have := need_bd (hi := hi) h
  have := tv_every h
  exact Int.mul_nonneg (Int.ediv_nonneg (by omega) (by omega)) (by omega)
theorem dem_mono {hi : Bool} {t : T} (h : tvB t = true) {x y : Int} (hx : 0 ≤ x) (hxy : x ≤ y) : dem hi t x ≤ dem hi t y := by
  have := need_bd (hi := hi) h
  have := tv_every h
  exact Int.mul_le_mul_of_nonneg_right (Int.ediv_le_ediv (by omega) (by omega)) (by omega)
theorem dem_le {hi : Bool} {t : T} (h : tvB t = true) {w : Int} (hw : 0 ≤ w) : dem hi t w ≤ w + 19 := by
  have h1 := need_bd (hi := hi) h
  have h2 := tv_every h
  have h3 : 0 ≤ (w + t.every - 1) / t.every := Int.ediv_nonneg (by omega) (by omega)
  have h4 : (w + t.every - 1) / t.every * need hi t ≤ (w + t.every - 1) / t.every * t.every := Int.mul_le_mul_of_nonneg_left h1.2 h3
  have h5 : (w + t.every - 1) / t.every * t.every ≤ w + t.every - 1 := Int.ediv_mul_le _ (by omega)
  unfold dem
  omega
theorem dem_one {hi : Bool} {t : T} (h : tvB t = true) {w : Int} (h1 : 1 ≤ w) (h2 : w ≤ t.every) : dem hi t w = need hi t := by
  have he := tv_every h
  have hq : (w + t.every - 1) / t.every = 1 := by
    apply Int.le_antisymm
    · have : (w + t.every - 1) / t.every < 2 := Int.ediv_lt_of_lt_mul (by omega) (by omega)
      omega
    · exact (Int.le_ediv_iff_mul_le (by omega)).2 (by omega)
  unfold dem
  rw [hq, Int.one_mul]
theorem dem_need {hi : Bool} {t : T} (h : tvB t = true) {w : Int} (h1 : 1 ≤ w) : need hi t ≤ dem hi t w := by
  have he := tv_every h
  have h0 := need_bd (hi := hi) h
  have := dem_mono (hi := hi) h (show (0 : Int) ≤ 1 by omega) h1
  rw [dem_one h (Int.le_refl 1) he.1] at this
  exact this
theorem dem_hi {t : T} (h : tvB t = true) {w : Int} (hw : 0 ≤ w) : dem false t w ≤ dem true t w := by
  have he := tv_every h
  have h0 := need_le (hi := true) h
  exact Int.mul_le_mul_of_nonneg_left (by have := (tvB_iff t).1 h; simp [need]; omega) (Int.ediv_nonneg (by omega) (by omega))
/-- the demand is no less than the share of the window -/
theorem dem_share {hi : Bool} {t : T} (h : tvB t = true) {w : Int} (hw : 0 ≤ w) : w * (need hi t * (LL / t.every)) ≤ dem hi t w * LL := by
  have he := tv_every h
  have h0 := need_bd (hi := hi) h
  have hq := LL_div he.1 he.2
  have hq0 : 0 ≤ LL / t.every := Int.ediv_nonneg (by decide) (by omega)
  have h1 : w ≤ (w + t.every - 1) / t.every * t.every := by
    have h2 := Int.lt_ediv_add_one_mul_self (w + t.every - 1) (show 0 < t.every by omega)
    have h3 : ((w + t.every - 1) / t.every + 1) * t.every = (w + t.every - 1) / t.every * t.every + t.every := by grind
    omega
  have h4 : w * (need hi t * (LL / t.every)) ≤ (w + t.every - 1) / t.every * t.every * (need hi t * (LL / t.every)) := Int.mul_le_mul_of_nonneg_right h1 (Int.mul_nonneg (by omega) hq0)
  have h5 : (w + t.every - 1) / t.every * t.every * (need hi t * (LL / t.every)) = dem hi t w * (LL / t.every * t.every) := by unfold dem; ac_rfl
  rw [h5, hq] at h4
  exact h4
/-- at a multiple of the period the demand is the share of the window -/
theorem dem_mult {hi : Bool} {t : T} (h : tvB t = true) {w : Int} (hd : t.every ∣ w) : dem hi t w * LL = w * (need hi t * (LL / t.every)) := by
  have he := tv_every h
  have hq := LL_div he.1 he.2
  obtain ⟨k, rfl⟩ := hd
  have h1 : (t.every * k + t.every - 1) / t.every = k := by
    apply Int.le_antisymm
    · have : (t.every * k + t.every - 1) / t.every < k + 1 := Int.ediv_lt_of_lt_mul (by omega) (by grind)
      omega
    · exact (Int.le_ediv_iff_mul_le (by omega)).2 (by rw [Int.mul_comm]; omega)
  unfold dem
  rw [h1]
  calc k * need hi t * LL = k * need hi t * (LL / t.every * t.every) := by rw [hq]
    _ = t.every * k * (need hi t * (LL / t.every)) := by ac_rfl

/-- a base and what the tasks want in a window -/
def respF (base : Int) (g : T → Int → Int) (pre : List T) (w : Int) : Int := base + (pre.map (fun t => g t w)).sum
theorem respF_nil (base : Int) (g : T → Int → Int) (w : Int) : respF base g [] w = base := by simp [respF]
theorem respF_snoc (base : Int) (g : T → Int → Int) (pre : List T) (t : T) (w : Int) : respF base g (pre ++ [t]) w = respF base g pre w + g t w := by
  simp [respF]; omega
theorem respF_cons (base : Int) (g : T → Int → Int) (pre : List T) (t : T) (w : Int) : respF base g (t :: pre) w = respF base g pre w + g t w := by
  simp [respF]; omega
theorem respF_base (base b : Int) (g : T → Int → Int) (pre : List T) (w : Int) : respF (base + b) g pre w = respF base g pre w + b := by
  simp [respF]; omega
theorem respF_perm {base : Int} {g : T → Int → Int} {p q : List T} (h : p.Perm q) (w : Int) : respF base g p w = respF base g q w := by
  induction h with
  | nil => rfl
  | cons x _ ih => rw [respF_cons, respF_cons, ih]
  | swap x y l => rw [respF_cons, respF_cons, respF_cons, respF_cons]; omega
  | trans _ _ h1 h2 => rw [h1, h2]
theorem respF_congr {base : Int} {g g' : T → Int → Int} {pre : List T} {w w' : Int} (h : ∀ t ∈ pre, g t w = g' t w') : respF base g pre w = respF base g' pre w' := by
  induction pre with
  | nil => simp [respF]
  | cons t ts ih => rw [respF_cons, respF_cons, ih (fun u hu => h u (by simp [hu])), h t (by simp)]
theorem respF_le {base base' : Int} {g g' : T → Int → Int} {pre : List T} {w w' : Int} (hb : base ≤ base') (h : ∀ t ∈ pre, g t w ≤ g' t w') : respF base g pre w ≤ respF base' g' pre w' := by
  induction pre with
  | nil => simp [respF]; exact hb
  | cons t ts ih =>
    rw [respF_cons, respF_cons]
    have h1 := ih (fun u hu => h u (by simp [hu]))
    have h2 := h t (by simp)
    omega
theorem respF_ge {base : Int} {g : T → Int → Int} {pre : List T} {w : Int} (h : ∀ t ∈ pre, 0 ≤ g t w) : base ≤ respF base g pre w := by
  induction pre with
  | nil => simp [respF]
  | cons t ts ih =>
    rw [respF_cons]
    have h1 := ih (fun u hu => h u (by simp [hu]))
    have h2 := h t (by simp)
    omega
theorem respF_sub {base : Int} {g : T → Int → Int} {p q : List T} {w : Int} (hs : p.Sublist q) (h : ∀ t ∈ q, 0 ≤ g t w) : respF base g p w ≤ respF base g q w := by
  induction hs with
  | slnil => exact Int.le_refl _
  | cons t _ ih =>
    rw [respF_cons]
    have h1 := ih (fun u hu => h u (by simp [hu]))
    have h2 := h t (by simp)
    omega
  | cons_cons t _ ih =>
    rw [respF_cons, respF_cons]
    have h1 := ih (fun u hu => h u (by simp [hu]))
    omega
theorem respF_bd {base B : Int} {g : T → Int → Int} {pre : List T} {w : Int} (h : ∀ t ∈ pre, g t w ≤ B) : respF base g pre w ≤ base + pre.length * B := by
  induction pre with
  | nil => simp [respF]
  | cons t ts ih =>
    rw [respF_cons]
    have h1 := ih (fun u hu => h u (by simp [hu]))
    have h2 := h t (by simp)
    have h3 : ((t :: ts).length : Int) * B = ts.length * B + B := by
      rw [List.length_cons]; push_cast; grind
    omega

def gLow (t : T) (w : Int) : Int := dem false t w
def gSw (low : Int) (t : T) (w : Int) : Int := if t.crit = true then dem true t w else dem false t low

theorem gSw_bd {low : Int} (hl : 0 ≤ low) {t : T} (h : tvB t = true) {w : Int} (hw : 0 ≤ w) : 0 ≤ gSw low t w ∧ gSw low t w ≤ w + low + 19 := by
  unfold gSw
  split
  · have := dem_nonneg (hi := true) h hw
    have := dem_le (hi := true) h hw
    omega
  · have := dem_nonneg (hi := false) h hl
    have := dem_le (hi := false) h hl
    omega
theorem gSw_mono {low : Int} {t : T} (h : tvB t = true) {x y : Int} (hx : 0 ≤ x) (hxy : x ≤ y) : gSw low t x ≤ gSw low t y := by
  unfold gSw
  split
  · exact dem_mono h hx hxy
  · exact Int.le_refl _

def allTv (pre : List T) : Prop := ∀ t ∈ pre, tvB t = true
theorem low_monoF {base s : Int} (hs : 0 ≤ s) {pre : List T} (hv : allTv pre) : MonoFrom s (respF base gLow pre) := fun x y hx hxy =>
  respF_le (Int.le_refl _) (fun t ht => dem_mono (hv t ht) (by omega) hxy)
theorem sw_monoF {base s low : Int} (hs : 0 ≤ s) {pre : List T} (hv : allTv pre) : MonoFrom s (respF base (gSw low) pre) := fun x y hx hxy =>
  respF_le (Int.le_refl _) (fun t ht => gSw_mono (hv t ht) (by omega) hxy)
theorem low_ge {base w : Int} (hw : 0 ≤ w) {pre : List T} (hv : allTv pre) : base ≤ respF base gLow pre w := respF_ge fun t ht => dem_nonneg (hv t ht) hw
theorem sw_ge {base w low : Int} (hw : 0 ≤ w) (hl : 0 ≤ low) {pre : List T} (hv : allTv pre) : base ≤ respF base (gSw low) pre w := respF_ge fun t ht => (gSw_bd hl (hv t ht) hw).1

/-- the response with low needs of x behind the tasks pre -/
def rlo (pre : List T) (x : T) : Option Int := riseAt (respF x.low gLow pre) x.due x.low
/-- the response at the switch -/
def rswF (low : Int) (pre : List T) (x : T) : Option Int := riseAt (respF x.high (gSw low) pre) x.due x.high
def rsw (pre : List T) (x : T) : Option Int := match rlo pre x with
  | none => none
  | some low => if x.crit = true then rswF low pre x else none
def endB (pre : List T) (x : T) : Bool := if x.crit = true then (rsw pre x).isSome else (rlo pre x).isSome

theorem rlo_some {pre : List T} {x : T} {r : Int} (hv : allTv pre) (hx : tvB x = true) (h : rlo pre x = some r) :
    x.low ≤ r ∧ r ≤ x.due ∧ respF x.low gLow pre r = r ∧ ∀ y, x.low ≤ y → respF x.low gLow pre y ≤ y → r ≤ y := by
  have := (tvB_iff x).1 hx
  exact riseAt_some (low_monoF (by omega) hv) (low_ge (by omega) hv) h
theorem rlo_ex {pre : List T} {x : T} (hv : allTv pre) (hx : tvB x = true) {y : Int} (h1 : x.low ≤ y) (h2 : y ≤ x.due) (h3 : respF x.low gLow pre y ≤ y) :
    ∃ r, rlo pre x = some r ∧ x.low ≤ r ∧ r ≤ y := by
  have := (tvB_iff x).1 hx
  obtain ⟨r, a, b, c, _⟩ := riseAt_ex (low_monoF (s := x.low) (by omega) hv) (low_ge (by omega) hv) h1 h2 h3
  exact ⟨r, a, b, c⟩
theorem rsw_some {pre : List T} {x : T} {r : Int} (h : rsw pre x = some r) : ∃ low, rlo pre x = some low ∧ x.crit = true ∧ rswF low pre x = some r := by
  unfold rsw at h
  split at h
  · cases h
  · rename_i low hl
    split at h
    · rename_i hc; exact ⟨low, hl, hc, h⟩
    · cases h
theorem rswF_some {pre : List T} {x : T} {r low : Int} (hl : 0 ≤ low) (hv : allTv pre) (hx : tvB x = true) (h : rswF low pre x = some r) :
    x.high ≤ r ∧ r ≤ x.due ∧ respF x.high (gSw low) pre r = r ∧ ∀ y, x.high ≤ y → respF x.high (gSw low) pre y ≤ y → r ≤ y := by
  have := (tvB_iff x).1 hx
  exact riseAt_some (sw_monoF (by omega) hv) (sw_ge (by omega) hl hv) h
theorem rswF_ex {pre : List T} {x : T} {low : Int} (hl : 0 ≤ low) (hv : allTv pre) (hx : tvB x = true) {y : Int} (h1 : x.high ≤ y) (h2 : y ≤ x.due) (h3 : respF x.high (gSw low) pre y ≤ y) :
    ∃ r, rswF low pre x = some r ∧ x.high ≤ r ∧ r ≤ y := by
  have := (tvB_iff x).1 hx
  obtain ⟨r, a, b, c, _⟩ := riseAt_ex (sw_monoF (s := x.high) (by omega) hv) (sw_ge (by omega) hl hv) h1 h2 h3
  exact ⟨r, a, b, c⟩
theorem endB_low {pre : List T} {x : T} (h : endB pre x = true) : ∃ r, rlo pre x = some r := by
  unfold endB at h
  split at h
  · cases hs : rsw pre x with
    | none => rw [hs] at h; cases h
    | some r => obtain ⟨low, hl, _⟩ := rsw_some hs; exact ⟨low, hl⟩
  · cases hs : rlo pre x with
    | none => rw [hs] at h; cases h
    | some r => exact ⟨r, rfl⟩

/-- fewer tasks ahead, in whatever order: shorter responses -/
theorem rlo_less {p q : List T} {x : T} (hq : allTv q) (hx : tvB x = true) (hle : ∀ w, 0 ≤ w → respF x.low gLow p w ≤ respF x.low gLow q w) (hp : allTv p) {r : Int} (h : rlo q x = some r) :
    ∃ u, rlo p x = some u ∧ x.low ≤ u ∧ u ≤ r := by
  have h0 := (tvB_iff x).1 hx
  obtain ⟨a, b, c, _⟩ := rlo_some hq hx h
  exact rlo_ex hp hx a b (by have := hle r (by omega); omega)
theorem rsw_less {p q : List T} {x : T} (hp : allTv p) (hq : allTv q) (hx : tvB x = true) (hle : ∀ w, 0 ≤ w → respF x.low gLow p w ≤ respF x.low gLow q w)
    (hlw : ∀ l w, 0 ≤ l → 0 ≤ w → respF x.high (gSw l) p w ≤ respF x.high (gSw l) q w) {r : Int} (h : rsw q x = some r) :
    ∃ u, rsw p x = some u ∧ x.high ≤ u ∧ u ≤ r := by
  have h0 := (tvB_iff x).1 hx
  obtain ⟨low, h1, h2, h3⟩ := rsw_some h
  obtain ⟨l', e1, e2, e3⟩ := rlo_less hq hx hle hp h1
  have hl0 : 0 ≤ low := by omega
  obtain ⟨a, b, c, _⟩ := rswF_some hl0 hq hx h3
  obtain ⟨u, f1, f2, f3⟩ := rswF_ex (low := l') (by omega) hp hx a b (by
    have g1 := hlw l' r (by omega) (by omega)
    have g2 : respF x.high (gSw l') q r ≤ respF x.high (gSw low) q r := respF_le (Int.le_refl _) (fun t ht => by
      unfold gSw
      split
      · exact Int.le_refl _
      · exact dem_mono (hq t ht) (by omega) e3)
    omega)
  exact ⟨u, by simp [rsw, e1, h2, f1], f2, f3⟩
theorem endB_less {p q : List T} {x : T} (hp : allTv p) (hq : allTv q) (hx : tvB x = true) (hle : ∀ w, 0 ≤ w → respF x.low gLow p w ≤ respF x.low gLow q w)
    (hlw : ∀ l w, 0 ≤ l → 0 ≤ w → respF x.high (gSw l) p w ≤ respF x.high (gSw l) q w) (h : endB q x = true) : endB p x = true := by
  unfold endB at h ⊢
  split at h
  · rename_i hc
    rw [if_pos hc]
    cases hs : rsw q x with
    | none => rw [hs] at h; cases h
    | some r =>
      obtain ⟨u, hu, _⟩ := rsw_less hp hq hx hle hlw hs
      rw [hu]; rfl
  · rename_i hc
    rw [if_neg hc]
    cases hs : rlo q x with
    | none => rw [hs] at h; cases h
    | some r =>
      obtain ⟨u, hu, _⟩ := rlo_less hq hx hle hp hs
      rw [hu]; rfl
theorem endB_sub {p q : List T} {x : T} (hs : p.Sublist q) (hq : allTv q) (hx : tvB x = true) (h : endB q x = true) : endB p x = true :=
  endB_less (fun t ht => hq t (hs.subset ht)) hq hx (fun w hw => respF_sub hs fun t ht => dem_nonneg (hq t ht) hw) (fun l w hl hw => respF_sub hs fun t ht => (gSw_bd hl (hq t ht) hw).1) h
theorem rlo_perm {p q : List T} (x : T) (h : p.Perm q) : rlo p x = rlo q x := by
  have : respF x.low gLow p = respF x.low gLow q := funext fun w => respF_perm h w
  unfold rlo; rw [this]
theorem rsw_perm {p q : List T} (x : T) (h : p.Perm q) : rsw p x = rsw q x := by
  have : ∀ l, respF x.high (gSw l) p = respF x.high (gSw l) q := fun l => funext fun w => respF_perm h w
  unfold rsw rswF; rw [rlo_perm x h]; simp only [this]
theorem endB_perm {p q : List T} (x : T) (h : p.Perm q) : endB p x = endB q x := by
  unfold endB; rw [rlo_perm x h, rsw_perm x h]

end Go.Proofs.Ytbfdpegjflhboaa
