/- The contract of l4All, of the reference: all orders that begin with some numbers. Conditions: at most five numbers; the numbers that it begins with lie at an address. -/
import Derived.Test.YtcgjifklapaeeaaAll
import Derived.Test.YtcgjifklapaeeaaRespS
import Derived.Maps.AppendAt
namespace Go.Proofs.Ytcgjifklapaeeaa
open Go.RowKit
set_option linter.unusedVariables false

theorem infoSl : (Try.prog.info? 26).map (fun i => (i.zero, i.size, i.bytes)) = some (some (.slice none 0 0), 1, 24) := by kernel_rfl

/-- slice values that read as lists of numbers, in blocks that F tells -/
def RdsI (F : Nat → Prop) (w : World) (vs : List Value) (L : List (List Int)) : Prop :=
  vs.length = L.length ∧ ∀ (i : Nat) (x : List Int), L[i]? = some x → ∃ A n c, vs[i]? = some (Value.slice A n c) ∧ RdI w A n c x ∧ (∀ b off, A = some ⟨b, off, none⟩ → 0 < n → F b)
theorem RdsI.nil (F : Nat → Prop) (w : World) : RdsI F w [] [] := ⟨rfl, fun i x h => by simp at h⟩
theorem RdsI.one {F : Nat → Prop} {w : World} {A : Option Addr} {n c : Nat} {x : List Int} (h : RdI w A n c x) (hF : ∀ b off, A = some ⟨b, off, none⟩ → 0 < n → F b) : RdsI F w [.slice A n c] [x] := by
  refine ⟨rfl, fun i y hy => ?_⟩
  cases i with
  | zero => simp at hy; subst hy; exact ⟨A, n, c, rfl, h, hF⟩
  | succ i => simp at hy
theorem RdsI.below {F : Nat → Prop} {w w' : World} {vs : List Value} {L : List (List Int)} (h : RdsI F w vs L) (hb : Below w.heap.size w w') : RdsI F w' vs L :=
  ⟨h.1, fun i x hx => by obtain ⟨A, n, c, h1, h2, h3⟩ := h.2 i x hx; exact ⟨A, n, c, h1, h2.below hb, h3⟩⟩
theorem rdI_lt {w : World} {A : Option Addr} {n c : Nat} {x : List Int} (h : RdI w A n c x) : ∀ b off, A = some ⟨b, off, none⟩ → 0 < n → b < w.heap.size := by
  intro b off e h0
  obtain ⟨b', off', y, hA, hy, hlt, _⟩ := h.intAt h0
  rw [e] at hA; injection hA with hA; injection hA with hA1 hA2
  omega
/-- kept where one other block has turned; the blocks tell what G asks -/
theorem RdsI.grown {F G : Nat → Prop} {w w' : World} {g : Nat} {vs : List Value} {L : List (List Int)} (h : RdsI F w vs L) (hg : w.grownBy w' (some g)) (hF : ∀ b, F b → b < w.heap.size → b ≠ g ∧ G b) : RdsI G w' vs L := by
  refine ⟨h.1, fun i x hx => ?_⟩
  obtain ⟨A, n, c, h1, h2, h3⟩ := h.2 i x hx
  have hlt := rdI_lt h2
  refine ⟨A, n, c, h1, ⟨h2.len, h2.cap, h2.max, fun h0 => ?_⟩, fun b off e h0 => (hF b (h3 b off e h0) (hlt b off e h0)).2⟩
  obtain ⟨b, off, e, hc⟩ := h2.cells h0
  have hne := (hF b (h3 b off e h0) (hlt b off e h0)).1
  exact ⟨b, off, e, fun i x hx j u hu => hg.cell (hc i x hx j u hu) (fun e' => hne (by injection e'))⟩
theorem RdsI.app {F : Nat → Prop} {w : World} {vs us : List Value} {L M : List (List Int)} (h : RdsI F w vs L) (k : RdsI F w us M) : RdsI F w (vs ++ us) (L ++ M) := by
  refine ⟨by rw [List.length_append, List.length_append, h.1, k.1], fun i x hx => ?_⟩
  by_cases hi : i < L.length
  · rw [List.getElem?_append_left hi] at hx
    obtain ⟨A, n, c, h1, h2⟩ := h.2 i x hx
    exact ⟨A, n, c, by rw [List.getElem?_append_left (by rw [h.1]; exact hi)]; exact h1, h2⟩
  · rw [List.getElem?_append_right (by omega)] at hx
    obtain ⟨A, n, c, h1, h2⟩ := k.2 _ x hx
    exact ⟨A, n, c, by rw [List.getElem?_append_right (by rw [h.1]; omega), h.1]; exact h1, h2⟩
theorem RdsI.oneCell {F : Nat → Prop} {w : World} {vs : List Value} {L : List (List Int)} (h : RdsI F w vs L) : ∀ u ∈ vs, u.oneCell' = true := by
  intro u hu
  obtain ⟨i, hi⟩ := List.getElem?_of_mem hu
  have hl : i < vs.length := (List.getElem?_eq_some_iff.1 hi).1
  obtain ⟨A, n, c, h1, _⟩ := h.2 i (L[i]'(by rw [← h.1]; exact hl)) (List.getElem?_eq_getElem _)
  rw [h1] at hi
  injection hi with hi
  rw [← hi]; rfl

/-- an owned row of such slice values, whose own blocks lie elsewhere, from s on -/
def OwnL (u w : World) (s g p d : Nat) (L : List (List Int)) : Prop :=
  ∃ vs, w.ownsRow u.heap.size 26 1 (.slice (some ⟨g, 0, none⟩) p d) p vs ∧ RdsI (fun b => b ≠ g ∧ s ≤ b) w vs L
section
variable {u w w' : World} {s g p d : Nat} {L : List (List Int)}
theorem OwnL.len (h : OwnL u w s g p d L) : L.length = p := by
  obtain ⟨vs, h1, h2⟩ := h
  have := h1.1
  rw [← h2.1]; omega
theorem OwnL.below (h : OwnL u w s g p d L) (hb : Below w.heap.size w w') : OwnL u w' s g p d L := by
  obtain ⟨vs, h1, h2⟩ := h
  exact ⟨vs, own_below h1 hb, h2.below hb⟩
theorem OwnL.ext {u' : World} (h : OwnL u' w s g p d L) (hs : u.heap.size ≤ u'.heap.size) : OwnL u w s g p d L := by
  obtain ⟨vs, h1, h2⟩ := h
  refine ⟨vs, ⟨h1.1, ?_⟩, h2⟩
  rcases h1.2 with h0 | ⟨g', cap, cur, hv, hb, r⟩
  · exact Or.inl h0
  · exact Or.inr ⟨g', cap, cur, hv, Nat.le_trans hs hb, r⟩
theorem OwnL.lt (h : OwnL u w s g p d L) : u.heap.size ≤ g ∧ g < w.heap.size := by
  obtain ⟨vs, h1, h2⟩ := h
  exact own_lt h1
theorem OwnL.capd (h : OwnL u w s g p d L) : p ≤ d ∧ d ≤ maxLen := by
  obtain ⟨vs, h1, h2⟩ := h
  exact own_bounds h1
/-- element i -/
theorem OwnL.at_ (h : OwnL u w s g p d L) {i : Nat} (hi : i < p) : ∃ A n c x, L[i]? = some x ∧ w.cell? ⟨g, i, none⟩ = some (.slice A n c) ∧ RdI w A n c x := by
  have hl := h.len
  obtain ⟨vs, h1, h2⟩ := h
  obtain ⟨A, n, c, h3, h4, _⟩ := h2.2 i (L[i]'(by omega)) (List.getElem?_eq_getElem _)
  have h5 := h1.cellAt i (by omega)
  exact ⟨A, n, c, _, List.getElem?_eq_getElem _, by rw [h5]; exact h3, h4⟩
end
theorem OwnL.new (w : World) (s : Nat) : OwnL w (w.alloc (.cells #[] 26)) s w.heap.size 0 0 [] :=
  ⟨[], World.ownsRow_lit (size := 1) (e := 26) (base := w.heap.size) w #[] 0 (Nat.le_refl _) (by decide) rfl, RdsI.nil _ _⟩
theorem OwnL.one (w : World) {s b off n c : Nat} {x : List Int} (h : RdI w (some ⟨b, off, none⟩) n c x) (hs : s ≤ b) : OwnL w (w.alloc (.cells #[.slice (some ⟨b, off, none⟩) n c] 26)) s w.heap.size 1 1 [x] :=
  ⟨[.slice (some ⟨b, off, none⟩) n c], World.ownsRow_lit (size := 1) (e := 26) (base := w.heap.size) w #[.slice (some ⟨b, off, none⟩) n c] 1 (Nat.le_refl _) (by decide) rfl, RdsI.one (h.alloc _) (fun b' off' e h0 => by
    have hlt := rdI_lt h b off rfl h0
    injection e with e; injection e with e1 e2
    omega)⟩
/-- a row appended to another one -/
theorem OwnL.app {u w w' : World} {s t g g' p q : Nat} {v : Value} {vs us : List Value} {L M : List (List Int)}
    (h1 : RdsI (fun b => b ≠ g ∧ s ≤ b) w vs L) (h2 : RdsI (fun b => b ≠ g' ∧ t ≤ b) w us M) (hgt : g < t) (hst : s ≤ t) (ho : w'.ownsRow u.heap.size 26 1 v (p + q) (vs ++ us)) (hg : w.grownBy w' (some g))
    (hat : v.ownBlock = some g ∨ v.ownBlock = some w.heap.size) (hn : v ≠ .slice none 0 0) : ∃ g4 d4, v = .slice (some ⟨g4, 0, none⟩) (p + q) d4 ∧ OwnL u w' s g4 (p + q) d4 (L ++ M) := by
  rcases ho.2 with ⟨hv, _⟩ | ⟨g4, cap, cur, hv, hb, _⟩
  · exact absurd hv hn
  · subst hv
    have hg4 : g4 = g ∨ g4 = w.heap.size := by
      rcases hat with e | e
      · injection e with e; exact Or.inl e
      · injection e with e; exact Or.inr e
    refine ⟨g4, cap, rfl, vs ++ us, ho, (h1.grown hg fun b hF hb => ?_).app (h2.grown hg fun b hF hb => ?_)⟩
    · exact ⟨hF.1, by rcases hg4 with e | e; (rw [e]; exact hF.1); omega, hF.2⟩
    · have := hF.2
      exact ⟨by omega, by rcases hg4 with e | e <;> omega, by omega⟩
theorem take_in_succ {b : List Int} {k : Nat} {x j : Int} (hx : b[k]? = some x) : decide (j ∈ b.take (k + 1)) = (decide (j ∈ b.take k) || (x == j)) := by
  rw [take_succ_of hx, Bool.eq_iff_iff]
  simp only [List.mem_append, List.mem_singleton, decide_eq_true_eq, Bool.or_eq_true, beq_iff_eq]
  constructor
  · rintro (h | h)
    · exact Or.inl h
    · exact Or.inr h.symm
  · rintro (h | h)
    · exact Or.inl h
    · exact Or.inr h.symm

/-- what l4All is proved to do -/
def AllPost (w : World) (s : Nat) (L : List (List Int)) (e : Ending) (w' : World) : Prop :=
  ∃ g p d : Nat, e = .returned (.slice (some ⟨g, 0, none⟩) p d) ∧ OwnL w w' s g p d L ∧ Below w.heap.size w w'

set_option maxRecDepth 100000 in
set_option maxHeartbeats 12800000 in
theorem l4All_any (n : Nat) (hn : n ≤ 5) : ∀ (k : Nat) (b : List Int) (ba off m c s : Nat) (w : World), RdI w (some ⟨ba, off, none⟩) m c b → m + k = n → s ≤ ba → s ≤ w.heap.size →
    Calls Try.prog 34 #[.slice (some ⟨ba, off, none⟩) m c, .int .i64 (n : Int)] w (AllPost w s (allO n k b)) := by
  intro k
  induction k with
  | zero =>
    intro b ba off m c s w h hm hsb hsw
    have hmn : m = n := by omega
    subst hmn
    have q := Lib.hid (show OwnL w (w.alloc (.cells #[.slice (some ⟨ba, off, none⟩) m c] 26)) s w.heap.size 1 1 (allO m 0 b) from OwnL.one w h hsb)
    have hb2 : ((m : Int) == m) = true := by simp
    clear h
    go_enter Try.func34, Try.ntmps34
    go_wp2_with fail
    go_ret
    exact ⟨_, _, _, rfl, q.out, (Below.refl _ _).alloc (Nat.le_refl _) _⟩
  | succ k ih =>
    intro b ba off m c s w h hm hsb hsw
    obtain ⟨inf, hi, iz0, iz1, iz2⟩ := info_parts infoIntD
    obtain ⟨inl, hL, lz0, lz1, lz2⟩ := info_parts infoSl
    have hpow : n ^ (k + 1) ≤ 3125 := pow5_le hn (by omega)
    have hle := Lib.hid (fun j (hj : j ≤ n) => Nat.le_trans (allTo_le (k := k) (b := b) hj) hpow)
    have q0 := Lib.hid h
    have hne : ((m : Int) == n) = false := by simp; omega
    have o0 := Lib.hid (OwnL.new w s)
    have IH := Lib.hid ih
    have hmn : m < n := by omega
    clear h ih hpow
    go_enter Try.func34, Try.ntmps34
    go_wp2_with fail
    go_loopw [5, 6] (fun v i wr => ∃ j g p d : Nat, i = .int .i64 j ∧ j ≤ n ∧ v = .slice (some ⟨g, 0, none⟩) p d ∧ Hid (OwnL w wr s g p d (allTo n k b j)) ∧ Below w.heap.size w wr) (fun _ i _ => n - (intOf i).toNat)
    case atStart => exact ⟨0, _, _, _, rfl, Nat.zero_le _, rfl, o0, (Below.refl _ _).alloc (Nat.le_refl _) _⟩
    case round =>
      obtain ⟨j, g, p, d, rfl, hj, rfl, ho, hb⟩ := hrel
      clear o0
      rename World => wo
      by_cases hjn : j < n
      · go_wp2_with fail
        go_loop [7, 8] (fun u i => ∃ a : Nat, i = .int .i64 a ∧ a ≤ m ∧ u = .bool (decide ((j : Int) ∈ b.take a))) (fun _ i => m - (intOf i).toNat)
        case atStart => exact ⟨0, rfl, Nat.zero_le _, by simp⟩
        case round =>
          obtain ⟨a, rfl, ha, rfl⟩ := hrel
          rcases Nat.lt_or_ge a m with ham | ham
          · obtain ⟨b', off', x, hA, hx, hlt, c0⟩ := (q0.out.below hb).intAt ham
            injection hA with hA
            injection hA with hA1 hA2
            subst hA1 hA2
            have HT := Lib.hid (take_in_succ (j := (j : Int)) hx)
            have a0 : (0 : Int) ≤ (a : Int) := by omega
            have a1 : (a : Int) < (m : Int) := by omega
            generalize hq : decide ((j : Int) ∈ b.take a) = q at *
            generalize hq2 : decide ((j : Int) ∈ b.take (a + 1)) = q2 at *
            have HQ := Lib.hid hq
            have HQ2 := Lib.hid hq2
            clear hx hq hq2
            cases q
            · generalize hy : (x == (j : Int)) = y at *
              have HE := Lib.hid (show q2 = y by rw [HT.out]; rfl)
              clear HT
              go_wp2
              go_round
              case rel => exact ⟨a + 1, by go_num, by omega, by rw [HQ2.out, HE.out]⟩
              case measure => simp [intOf]; omega
            · have HE := Lib.hid (show q2 = true by rw [HT.out]; rfl)
              clear HT
              go_wp2
              go_round
              case rel => exact ⟨a + 1, by go_num, by omega, by rw [HQ2.out, HE.out]⟩
              case measure => simp [intOf]; omega
          · have ham' : a = m := by omega
            subst ham'
            have HTk := Lib.hid (show b.take a = b from List.take_of_length_le (by rw [q0.out.len]; exact Nat.le_refl _))
            rw [HTk.out]
            by_cases hin : (j : Int) ∈ b
            · rw [decide_eq_true hin]
              have HN := Lib.hid (allTo_in (n := n) (k := k) hin)
              clear hin
              go_wp2
              go_roundw
              case rel => exact ⟨j + 1, _, _, _, by go_num, by omega, rfl, by rw [HN.out]; exact ho, hb⟩
              case measure => simp [intOf]; omega
            · rw [decide_eq_false hin]
              have HN := Lib.hid (allTo_out (n := n) (k := k) hin)
              clear hin
              have hcp := ho.out.capd
              have hgw := Lib.hid ho.out.lt.2
              have hsw2 := Lib.hid (Nat.le_trans hsw hb.size)
              have hpl := hle.out j hj
              have hpl2 := hle.out (j + 1) hjn
              rw [ho.out.len] at hpl
              rw [HN.out, List.length_append, ho.out.len] at hpl2
              have q1 := Lib.hid (q0.out.below hb)
              have hcb := q1.out.cap
              have hcc := q1.out.max
              unfold maxLen at hcb hcc hcp
              -- []int{}
              have N0 := Lib.hid (OwnI.new wo)
              have hbA := hb.alloc hb.size (.cells #[] 3)
              have q2 := Lib.hid (rdI_cells (q1.out.alloc (.cells #[] 3)))
              have l2 := Lib.hid (show (b.flatMap icells).length = a * 1 by rw [flatMap_len icells_len, q1.out.len])
              have bs0 := hb.size
              go_wp2_with (at_builtin; refine wpList_append_own _ rfl (.tmp 39) (.tmp 40) 26 rfl wo.heap.size 3 inf _ 1 8 Try.underlying26 hi iz0 iz1 iz2 rfl (by decide) _ _ _ rfl N0.out.1 ⟨ba, off, none⟩ a c (b.flatMap icells) rfl l2.out q2.out (icells_all_one _) (by unfold maxLen; omega) (by omega) (by simp) ?_)
              intro v1 w1 hown1 hg1 hn1
              have hg1' : (wo.alloc (.cells #[] 3)).grownBy w1 (some wo.heap.size) := hg1
              have hb1 := hbA.grown hg1' hbA.size (fun k e => by injection e with e; omega)
              have hbo1 := ((Below.refl wo.heap.size wo).alloc (Nat.le_refl _) (.cells #[] 3)).grown hg1' (by simp) (fun k e => by injection e with e; omega)
              have N1 := Lib.hid (show OwnI wo w1 v1 a b from ⟨by simpa using hown1, q1.out.len⟩)
              obtain ⟨g1, d1, rfl, _⟩ := own_someI N1.out (fun e => by first | exact hn1 e | (have h := (hn1.1 e).1; cases h))
              have N1a := Lib.hid (N1.out.alloc (.cells #[.int .i64 (j : Int)] 3))
              have hb1a := hb1.alloc hb1.size (.cells #[.int .i64 (j : Int)] 3)
              have hbo1a := hbo1.alloc hbo1.size (.cells #[.int .i64 (j : Int)] 3)
              have c1 := Lib.hid (show ∀ t u, ([(j : Int)].flatMap icells)[t]? = some u → (w1.alloc (.cells #[.int .i64 (j : Int)] 3)).cell? ((⟨w1.heap.size, 0, none⟩ : Addr).add t) = some u from by simpa using cell_one w1 (j : Int) 3 w1.heap.size rfl)
              have bs1 := hbo1.size
              clear hown1 hg1 hg1' hn1 N0 N1 q2 l2 hbA
              go_wp2_with (at_builtin; refine wpList_append_own _ rfl (.tmp 41) (.tmp 43) 26 rfl wo.heap.size 3 inf _ 1 8 Try.underlying26 hi iz0 iz1 iz2 rfl (by decide) _ _ _ rfl N1a.out.1 ⟨w1.heap.size, 0, none⟩ 1 1 ([(j : Int)].flatMap icells) rfl rfl c1.out (icells_all_one _) ?d3 ?d4 ?d5 ?_)
              case d3 => unfold maxLen; omega
              case d4 => omega
              case d5 => first | omega | (simp; omega)
              intro v2 w2 hown2 hg2 hn2
              have N2 := Lib.hid (show OwnI wo w2 v2 (a + 1) (b ++ [(j : Int)]) from ⟨by rw [List.flatMap_append]; simpa using hown2, by rw [List.length_append, q1.out.len]; rfl⟩)
              have hb2 := hb1a.grown hg2 hb1a.size (fun k e => Nat.le_trans bs0 (N1a.out.1.lt k e).1)
              have hbo2 := hbo1a.grown hg2 hbo1a.size (fun k e => (N1a.out.1.lt k e).1)
              obtain ⟨g2, d2, rfl, hg2w⟩ := own_someI N2.out (fun e => by first | exact hn2 e | (have h := (hn2.1 e).1; cases h))
              have r2 := Lib.hid N2.out.rd5
              clear hown2 hg2 hn2 N1a c1 N2 hb1a hbo1a
              go_wp2_with fail
              refine (IH.out (b ++ [(j : Int)]) g2 0 (a + 1) d2 wo.heap.size w2 r2.out (by omega) hg2w hbo2.size).mono ?_
              rintro e w3 ⟨g3, p3, d3, rfl, o3, hb3⟩
              have hb23 := hb2.trans (hb3.mono hb2.size)
              have hbo3 := hbo2.trans (hb3.mono hbo2.size)
              have oA := Lib.hid (ho.out.below hbo3)
              have hl3 := o3.len
              rw [hl3] at hpl2
              obtain ⟨vsA, hA1, hA2⟩ := oA.out
              obtain ⟨vsB, hB1, hB2⟩ := o3
              have HA1 := Lib.hid hA1
              have HA2 := Lib.hid hA2
              have HB1 := Lib.hid hB1
              have HB2 := Lib.hid hB2
              have HBn := Lib.hid (show ∀ t u, vsB[t]? = some u → w3.cell? ((⟨g3, 0, none⟩ : Addr).add t) = some u from hB1.cells rfl)
              have HBl := Lib.hid (show vsB.length = p3 * 1 by rw [hB1.1])
              have bs3 := hb23.size
              clear hA1 hA2 hB1 hB2 oA r2 hl3 hb3 hbo2 hbo3
              go_wp2_with (at_builtin; refine wpList_append_own_at _ rfl (.tmp 38) (.tmp 46) 46 rfl w.heap.size 26 inl _ 1 24 Try.underlying46 hL lz0 lz1 lz2 rfl (by decide) _ _ _ rfl HA1.out ⟨g3, 0, none⟩ p3 d3 vsB rfl HBl.out HBn.out HB2.out.oneCell ?e3 ?e4 ?e5 ?_)
              case e3 => unfold maxLen; omega
              case e4 => omega
              case e5 => exact bs3
              intro v4 w4 hown4 hg4 hn4 hat4
              have hb4 := hb23.grown hg4 hb23.size (fun k e => (HA1.out.lt k e).1)
              obtain ⟨g4, d4, rfl, O4⟩ := OwnL.app HA2.out HB2.out hgw.out hsw2.out hown4 hg4 hat4 (fun e => by first | exact hn4 e | (have h := (hn4.1 e).1; cases h))
              rw [← HN.out] at O4
              have O4 := Lib.hid O4
              clear hown4 hg4 hn4 hat4 HA1 HA2 HB1 HB2 HBn HBl HN
              go_wp2
              go_roundw
              case rel => exact ⟨j + 1, _, _, _, by go_num, by omega, rfl, O4, hb4⟩
              case measure => simp [intOf]; omega
      · have hjn' : j = n := by omega
        subst hjn'
        rw [allTo_end] at ho
        go_wp2
        go_ret
        exact ⟨_, _, _, rfl, ho.out, hb⟩

end Go.Proofs.Ytcgjifklapaeeaa
