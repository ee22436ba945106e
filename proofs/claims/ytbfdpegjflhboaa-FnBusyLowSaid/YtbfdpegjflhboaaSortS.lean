/- The contracts of l1Before and SortDue, of the reference: some tasks come back, as many at most. No condition. -/
import Derived.Test.YtbfdpegjflhboaaDrawL
import Derived.Test.YtbfdpegjflhboaaSet
import Derived.Deep.DeepCutAuto
namespace Go.Proofs.Ytbfdpegjflhboaa
open Go.RowKit
set_option linter.unusedVariables false

def befB (x y : T) : Bool := if x.due = y.due then decide (x.every < y.every) else decide (x.due < y.due)

set_option maxRecDepth 100000 in
set_option maxHeartbeats 1600000 in
theorem l1Before_any (x y : T) (w : World) :
    Calls Try.prog 70 #[.agg #[.int .i64 x.low, .int .i64 x.high, .int .i64 x.due, .int .i64 x.every, .bool x.crit], .agg #[.int .i64 y.low, .int .i64 y.high, .int .i64 y.due, .int .i64 y.every, .bool y.crit]] w fun e w' => e = .returned (.bool (befB x y)) ∧ Below w.heap.size w w' := by
  have hz0 := ((Below.refl w.heap.size w).alloc (Nat.le_refl _) (.cells #[.int .i64 x.low, .int .i64 x.high, .int .i64 x.due, .int .i64 x.every, .bool x.crit] 30))
  replace hz0 := hz0.alloc hz0.size (.cells #[.int .i64 y.low, .int .i64 y.high, .int .i64 y.due, .int .i64 y.every, .bool y.crit] 30)
  by_cases h : x.due = y.due
  · have HB := Lib.hid (show befB x y = decide (x.every < y.every) by simp [befB, h])
    have hb : (x.due != y.due) = false := by simp [h]
    clear h
    go_enter Try.func70, Try.ntmps70
    go_wp2
    go_ret
    exact ⟨ret_bool HB.out.symm, hz0⟩
  · have HB := Lib.hid (show befB x y = decide (x.due < y.due) by simp [befB, h])
    have hb : (x.due != y.due) = true := by simp [h]
    clear h
    go_enter Try.func70, Try.ntmps70
    go_wp2
    go_ret
    exact ⟨ret_bool HB.out.symm, hz0⟩

theorem OwnT.belowS {w w1 w2 : World} {v : Value} {m : Nat} {xs : List T} (h : OwnT w w1 v m xs) (hb : Below w1.heap.size w1 w2) : OwnT w w2 v m xs := ⟨own_below h.1 hb, h.2⟩
theorem OwnT.rdS {w w1 : World} {A : Option Addr} {c m : Nat} {xs : List T} (h : OwnT w w1 (.slice A m c) m xs) : RdT w1 A m c xs := Rd.of_own T.cells_len h.1 h.2
theorem OwnT.keepS {w w1 w2 : World} {v : Value} {m : Nat} {xs : List T} (h : OwnT w w1 v m xs) {row : Option Nat} (hg : w1.grownBy w2 row) (hne : v.ownBlock ≠ row) : OwnT w w2 v m xs :=
  ⟨h.1.kept hg (Or.inr hne), h.2⟩
theorem rd_cells {w : World} {A : Option Addr} {b off n c : Nat} {xs : List T} (h : RdT w (some ⟨b, off, none⟩) n c xs) (h0 : 0 < n) : ∀ j u, (xs.flatMap T.cells)[j]? = some u → w.cell? ((⟨b, off, none⟩ : Addr).add j) = some u := by
  intro j u hu
  obtain ⟨b', off', e, hc⟩ := h.cells h0
  injection e with e; injection e with e1 e2
  subst e1 e2
  have hj : j < (xs.flatMap T.cells).length := (List.getElem?_eq_some_iff.1 hu).1
  rw [flatMap_len T.cells_len] at hj
  have hd : j / 5 < xs.length := Nat.div_lt_of_lt_mul (by omega)
  have hx : xs[j / 5]? = some xs[j / 5] := List.getElem?_eq_getElem hd
  have hm : j % 5 < 5 := Nat.mod_lt _ (by omega)
  have hlen : j % 5 < (xs[j / 5].cells).length := by rw [T.cells_len]; exact hm
  have hu2 := flatMap_get T.cells_len hx (List.getElem?_eq_getElem hlen)
  have e : j / 5 * 5 + j % 5 = j := by omega
  rw [e] at hu2
  rw [hu2] at hu
  have := hc (j / 5) _ hx (j % 5) _ (List.getElem?_eq_getElem hlen)
  rw [Nat.add_assoc, e] at this
  rw [Addr.add_lit]
  rw [this]; exact hu
theorem rd_take_cells {w : World} {g d m : Nat} {ys : List T} (h : RdT w (some ⟨g, 0, none⟩) m d ys) {a : Nat} (ha : a ≤ m) : ∀ j u, ((ys.take a).flatMap T.cells)[j]? = some u → w.cell? ((⟨g, 0, none⟩ : Addr).add j) = some u := by
  rcases Nat.eq_zero_or_pos a with h0 | h0
  · subst h0; intro j u hu; simp at hu
  · exact rd_cells (A := none) (h.take ha) h0
theorem rd_cells0 {w : World} {b off : Nat} {xs : List T} (h : xs = []) : ∀ j u, (xs.flatMap T.cells)[j]? = some u → w.cell? ((⟨b, off, none⟩ : Addr).add j) = some u := by
  intro j u hu
  subst h
  simp at hu
theorem cells_all_one (xs : List T) : ∀ u ∈ xs.flatMap T.cells, u.oneCell' = true := by
  intro u hu
  obtain ⟨x, _, hx⟩ := List.mem_flatMap.1 hu
  exact cells_oneCell x u hx
theorem Rd.dropS {α : Type} {k : Nat} {enc : α → List Value} {w : World} {b off n c : Nat} {xs : List α} (h : Rd k enc w (some ⟨b, off, none⟩) n c xs) {m : Nat} (hm : m ≤ n) : Rd k enc w (some ⟨b, off + m * k, none⟩) (n - m) (c - m) (xs.drop m) := by
  have hc := h.cap
  have hx := h.max
  refine ⟨by rw [List.length_drop, h.len], by omega, by omega, fun h0 => ?_⟩
  obtain ⟨b', off', e, hcl⟩ := h.cells (by omega)
  injection e with e; injection e with e1 e2
  subst e1 e2
  refine ⟨b, off + m * k, rfl, fun i x hx j u hu => ?_⟩
  rw [List.getElem?_drop] at hx
  have := hcl (m + i) x hx j u hu
  rw [Nat.add_mul, ← Nat.add_assoc off] at this
  exact this
theorem rd_drop_cells {w : World} {g d m : Nat} {ys : List T} (h : RdT w (some ⟨g, 0, none⟩) m d ys) {a : Nat} (ha : a ≤ m) : ∀ j u, ((ys.drop a).flatMap T.cells)[j]? = some u → w.cell? ((⟨g, a * 5, none⟩ : Addr).add j) = some u := by
  by_cases h0 : a = m
  · intro j u hu
    rw [List.drop_eq_nil_of_le (by rw [h.len]; omega)] at hu
    simp at hu
  · have := rd_cells (A := none) (h.dropS ha) (by omega)
    rw [Nat.zero_add] at this
    exact this
theorem own_some {w w1 : World} {v : Value} {m : Nat} {xs : List T} (h : OwnT w w1 v m xs) (hn : v ≠ .slice none 0 0) : ∃ g c, v = .slice (some ⟨g, 0, none⟩) m c ∧ w.heap.size ≤ g := by
  rcases h.form with ⟨e, _⟩ | h
  · exact absurd e hn
  · exact h
theorem below_rowS {w w1 w2 w3 : World} {v : Value} {m : Nat} {L : List Value} {e : TypeId} {k : Nat} (hb : Below w.heap.size w w2) (hw : w.heap.size ≤ w1.heap.size) (ho : w2.ownsRow w1.heap.size e k v m L) (hg : w2.grownBy w3 v.ownBlock) : Below w.heap.size w w3 :=
  hb.grown hg hb.size (fun g e => Nat.le_trans hw (ho.lt g e).1)

set_option maxRecDepth 100000 in
set_option maxHeartbeats 12800000 in
theorem sortDue_spec (A : Option Addr) (n c : Nat) (xs : List T) (w : World) (h : RdT w A n c xs) (hn : n ≤ 5) :
    Calls Try.prog 62 #[.slice A n c] w fun e w' => ∃ (D : Option Addr) (m d : Nat) (ys : List T), e = .returned (.slice D m d) ∧ m ≤ 5 ∧ OwnT w w' (.slice D m d) m ys ∧ Below w.heap.size w w' := by
  obtain ⟨inf, hi, iz0, iz1, iz2⟩ := info_parts infoTaskD
  have q0 := Lib.hid h
  have o0 := Lib.hid (OwnT.new w)
  have hb0 : Below w.heap.size w (w.alloc (.cells #[] 30)) := (Below.refl _ _).alloc (Nat.le_refl _) _
  clear h
  go_enter Try.func62, Try.ntmps62
  go_wp2_with fail
  go_loopw [3, 4] (fun v i wr => ∃ (k g m d : Nat) (ys : List T), i = .int .i64 k ∧ k ≤ n ∧ m ≤ k ∧ v = .slice (some ⟨g, 0, none⟩) m d ∧ OwnT w wr (.slice (some ⟨g, 0, none⟩) m d) m ys ∧ Below w.heap.size w wr) (fun _ i _ => n - (intOf i).toNat)
  case atStart => exact ⟨0, _, 0, _, [], rfl, Nat.zero_le _, Nat.le_refl _, rfl, o0.out, hb0⟩
  case round =>
    obtain ⟨k, g, m, d, ys, rfl, hk, hmk, rfl, ho, hbel⟩ := hrel
    replace ho := Lib.hid ho
    clear o0 hb0
    by_cases hkn : k < n
    · have hV := Lib.hid (setValid_spec A n c xs wr (q0.out.below hbel))
      cases hs : svB xs
      · rw [hs] at hV
        clear hs
        go_wp2_with fail
        refine hV.out.mono ?_
        rintro e w1 ⟨rfl, hb1⟩
        have o1 := ho.out.belowS hb1
        have hz1 := hbel.trans (hb1.mono hbel.size)
        go_wp2
        go_ret
        exact ⟨_, _, _, ys, rfl, by omega, o1, hz1⟩
      · rw [hs] at hV
        clear hs
        go_wp2_with fail
        refine hV.out.mono ?_
        rintro e w1 ⟨rfl, hb1⟩
        have o1 := Lib.hid (ho.out.belowS hb1)
        have hz1 := hbel.trans (hb1.mono hbel.size)
        clear hb1 hV
        obtain ⟨wo, hwo⟩ : ∃ wo : World, wo = w1 := ⟨_, rfl⟩
        subst hwo
        go_wp2_with fail
        go_loopw [5] (fun i wr => ∃ a : Nat, i = .int .i64 a ∧ a ≤ m ∧ Below w.heap.size w wr ∧ OwnT w wr (.slice (some ⟨g, 0, none⟩) m d) m ys) (fun i _ => (intOf i).toNat)
        case atStart => exact ⟨m, rfl, Nat.le_refl _, hz1, o1.out⟩
        case round =>
          obtain ⟨a, rfl, ham, hz2, o2⟩ := hrel
          replace o2 := Lib.hid o2
          clear o1 hz1 ho hbel
          have hsz := hz2.size
          obtain ⟨b, off, x, hA, hx, hb, c0, c1, c2, c3, c4⟩ := (q0.out.below hz2).taskAt hkn
          subst hA
          have i0 : (0 : Int) ≤ (k : Int) := by omega
          have i1 : (k : Int) < (n : Int) := by omega
          have hgw : w.heap.size ≤ g ∧ g < wr.heap.size := own_lt o2.out.1
          have hres : (a ≤ 0 ∨ (1 ≤ a ∧ befB x (ys.getD (a - 1) default) = false)) ∨ (1 ≤ a ∧ befB x (ys.getD (a - 1) default) = true) := by
            rcases Nat.eq_zero_or_pos a with h0 | h0
            · left; left; omega
            · cases befB x (ys.getD (a - 1) default)
              · left; right; exact ⟨h0, rfl⟩
              · right; exact ⟨h0, rfl⟩
          rcases hres with (ha0 | ⟨ha1, hbf⟩) | ⟨ha1, hbf⟩
          · have hd : decide (0 < a) = false := by simp; omega
            have Hx := Lib.hid hx
            clear hx ha0
            go_wp2_with fail
            refine wp_region_quiet_below (by kernel_rfl) (by kernel_rfl) ?_
            repeat (go_big_quiet_step ((fail)))
            refine wpQuiet_nil ?_
            intro wi hwq
            have hbq := below_of_regrown hwq
            clear hwq
            clear hd
            have hz3 := hz2.trans (hbq.mono hz2.size)
            have o3 := Lib.hid (o2.out.belowS hbq)
            have hgi : g < wi.heap.size := Nat.lt_of_lt_of_le hgw.2 hbq.size
            have hbA : Below wi.heap.size wi (wi.alloc (.cells #[] 30)) := (Below.refl _ _).alloc (Nat.le_refl _) _
            have N0 := Lib.hid (OwnT.new wi)
            have hmd := o3.out.rdS.cap
            have hdm := o3.out.rdS.max
            unfold maxLen at hdm
            have s1 := Lib.hid (rd_take_cells (o3.out.belowS hbA).rdS ham)
            have l1 := Lib.hid (show ((ys.take a).flatMap T.cells).length = a * 5 by rw [flatMap_len T.cells_len, List.length_take, o3.out.2]; rw [Nat.min_eq_left ham])
            clear hbq o2 c0 c1 c2 c3 c4
            go_wp2_with (at_builtin; refine wpList_append_own _ rfl (.tmp 36) (.tmp 39) 23 rfl wi.heap.size 30 inf _ 5 40 Try.underlying23 hi iz0 iz1 iz2 rfl (by decide) _ _ _ rfl N0.out.1 ⟨g, 0, none⟩ a d ((ys.take a).flatMap T.cells) rfl l1.out s1.out (cells_all_one _) ?p3a ?p4a ?p5a ?_)
            case p3a => unfold maxLen; omega
            case p4a => omega
            case p5a => first | omega | (simp; done) | (simp; omega)
            intro v1 w2 hown1 hg1 hn1
            have hg1' : (wi.alloc (.cells #[] 30)).grownBy w2 (some wi.heap.size) := hg1
            have hb12 := hbA.grown hg1' hbA.size (fun k e => by injection e with e; omega)
            have N1 := Lib.hid (show OwnT wi w2 v1 a (ys.take a) from ⟨by simpa using hown1, by rw [List.length_take, o3.out.2]; exact Nat.min_eq_left ham⟩)
            have nn1 := Lib.hid (show v1 ≠ .slice none 0 0 from fun e => by first | exact hn1 e | (have h := (hn1.1 e).1; cases h))
            have hz4 := hz3.trans (hb12.mono hz3.size)
            have o4 := Lib.hid (o3.out.belowS hb12)
            obtain ⟨b', off', x', hA', hx', hb', c0, c1, c2, c3, c4⟩ := (q0.out.below hz4).taskAt hkn
            rw [Hx.out] at hx'
            injection hx' with hx'
            subst hx'
            injection hA' with hA'
            injection hA' with hA1 hA2
            subst hA1 hA2
            have cj := Lib.hid (cells_one w2 x 30 w2.heap.size rfl)
            have N1a := Lib.hid (N1.out.alloc (.cells #[.int .i64 x.low, .int .i64 x.high, .int .i64 x.due, .int .i64 x.every, .bool x.crit] 30))
            have hb12a := Lib.hid (hb12.alloc hb12.size (.cells #[.int .i64 x.low, .int .i64 x.high, .int .i64 x.due, .int .i64 x.every, .bool x.crit] 30))
            have hsz2 := hb12.size
            clear hown1 hg1 hn1 hbA N0 s1 l1 hb12
            go_wp2_with (at_builtin; refine wpList_append_own _ rfl (.tmp 41) (.tmp 46) 23 rfl wi.heap.size 30 inf _ 5 40 Try.underlying23 hi iz0 iz1 iz2 rfl (by decide) _ _ _ rfl N1a.out.1 ⟨w2.heap.size, 0, none⟩ 1 1 x.cells rfl rfl cj.out (cells_oneCell _) ?q3a ?q4a ?q5a ?_)
            case q3a => unfold maxLen; omega
            case q4a => omega
            case q5a => first | omega | (simp; done) | (simp; omega)
            intro v2 w3 hown2 hg2 hn2
            have hb13 := hb12a.out.grown hg2 hb12a.out.size (fun k e => (N1a.out.1.lt k e).1)
            have N2 := Lib.hid (show OwnT wi w3 v2 (a + 1) (ys.take a ++ [x]) from ⟨by rw [List.flatMap_append]; simpa using hown2, by rw [List.length_append, N1.out.2]; rfl⟩)
            have nn2 := Lib.hid (show v2 ≠ .slice none 0 0 from fun e => by first | exact hn2 e | exact nn1.out (hn2.1 e).1)
            have hz5 := hz3.trans (hb13.mono hz3.size)
            have o5 := Lib.hid (o3.out.belowS hb13)
            clear c0 c1 c2 c3 c4 cj N1a hb12a hown2 hg2 hn2 N1 nn1 hsz2 hz4 o4
            by_cases had : a = d
            · have hma : m = a := by omega
              subst had
              subst hma
              have hdr := Lib.hid (show ys.drop m = [] from List.drop_eq_nil_of_le (by rw [o5.out.2]; exact Nat.le_refl _))
              have s3 : ∀ (j : Nat) (u : Value), ([] : List Value)[j]? = some u → w3.cell? ((⟨g, 0, none⟩ : Addr).add j) = some u := fun j u hu => by simp at hu
              go_wp2_with (at_builtin; refine wpList_append_own _ rfl (.tmp 48) (.tmp 51) 23 rfl wi.heap.size 30 inf _ 5 40 Try.underlying23 hi iz0 iz1 iz2 rfl (by decide) _ _ _ rfl N2.out.1 ⟨g, 0, none⟩ 0 0 [] rfl rfl s3 (fun u hu => by simp at hu) ?r3a ?r4a ?r5a ?_)
              case r3a => unfold maxLen; omega
              case r4a => omega
              case r5a => first | omega | exact hb13.size
              intro v3 w4 hown3 hg3 hn3
              have hb14 := hb13.grown hg3 hb13.size (fun k e => (N2.out.1.lt k e).1)
              have N3 := Lib.hid (show OwnT wi w4 v3 (m + 1) (ys.take m ++ [x]) from ⟨by simpa using hown3, N2.out.2⟩)
              have nn3 := Lib.hid (show v3 ≠ .slice none 0 0 from fun e => by first | exact hn3 e | exact nn2.out (hn3.1 e).1 | exact nn2.out (hn3.1 e))
              obtain ⟨g', d', hv3, _⟩ := own_some N3.out nn3.out
              subst hv3
              have N4 := Lib.hid (N3.out.ext hz3.size)
              have hz6 := hz3.trans (hb14.mono hz3.size)
              clear hown3 hg3 hn3 N2 nn2 N3 nn3 hz5 hb13 hb14 s3
              go_wp2
              go_roundw
              case rel => exact ⟨k + 1, g', m + 1, d', _, by go_num, by omega, by omega, rfl, N4.out, hz6⟩
              case measure => simp [intOf]; omega
            · have had2 : ¬ d = a := fun e => had e.symm
              have s3 := Lib.hid (rd_drop_cells o5.out.rdS ham)
              have l3 := Lib.hid (show ((ys.drop a).flatMap T.cells).length = (m - a) * 5 by rw [flatMap_len T.cells_len, List.length_drop, o5.out.2])
              go_wp2_with (at_builtin; refine wpList_append_own _ rfl (.tmp 48) (.tmp 51) 23 rfl wi.heap.size 30 inf _ 5 40 Try.underlying23 hi iz0 iz1 iz2 rfl (by decide) _ _ _ rfl N2.out.1 ⟨g, a * 5, none⟩ (m - a) (d - a) ((ys.drop a).flatMap T.cells) rfl l3.out s3.out (cells_all_one _) ?t3a ?t4a ?t5a ?_)
              case t3a => unfold maxLen; omega
              case t4a => omega
              case t5a => first | omega | exact hb13.size
              intro v3 w4 hown3 hg3 hn3
              have hb14 := hb13.grown hg3 hb13.size (fun k e => (N2.out.1.lt k e).1)
              have hsum : a + 1 + (m - a) = m + 1 := by omega
              have N3 := Lib.hid (show OwnT wi w4 v3 (m + 1) (ys.take a ++ [x] ++ ys.drop a) from ⟨by rw [List.append_assoc, List.flatMap_append, List.flatMap_append, List.flatMap_singleton, ← hsum]; exact hown3, by rw [List.length_append, N2.out.2, List.length_drop, o5.out.2]; omega⟩)
              have nn3 := Lib.hid (show v3 ≠ .slice none 0 0 from fun e => by first | exact hn3 e | exact nn2.out (hn3.1 e).1)
              obtain ⟨g', d', hv3, _⟩ := own_some N3.out nn3.out
              subst hv3
              have N4 := Lib.hid (N3.out.ext hz3.size)
              have hz6 := hz3.trans (hb14.mono hz3.size)
              have hmk1 : m + 1 ≤ k + 1 := by omega
              clear hown3 hg3 hn3 N2 nn2 N3 nn3 hz5 hb13 hb14 s3 l3 hsum
              go_wp2
              go_roundw
              case rel => exact ⟨k + 1, g', m + 1, d', _, by go_num, by omega, by omega, by first | rfl | (congr 1; omega), N4.out, hz6⟩
              case measure => simp [intOf]; omega
          · obtain ⟨b2, off2, y, hA2, hy, hb2, e0, e1, e2, e3, e4⟩ := o2.out.rdS.taskAt (i := a - 1) (by omega)
            injection hA2 with hA2
            injection hA2 with hA2 hA3
            subst hA2 hA3
            rw [Nat.zero_add] at e0 e1 e2 e3 e4
            rw [List.getD_eq_getElem?_getD, hy] at hbf
            have hbf' : befB x y = false := hbf
            have hd : decide (0 < a) = true := by simp; omega
            have hap := Lib.hid (show a = a - 1 + 1 by omega)
            have k1 : IntKind.i64.wrap ((a : Int) - 1) = ((a - 1 : Nat) : Int) := by rw [IntWalk.i64_in _ (by omega)]; omega
            have j0 : (0 : Int) ≤ ((a - 1 : Nat) : Int) := by omega
            have j1 : ((a - 1 : Nat) : Int) < (m : Int) := by omega
            have j2 : a ≤ (a - 1) + 1 := by omega
            have j3 : (a - 1) + 1 ≤ a := by omega
            generalize a - 1 = p at *
            have HC := Lib.hid (fun d os => Calls.regrown_of (d := d) (os := os) (hbf' ▸ l1Before_any x y (Go.Sort.grow (redrawn wr d) os)))
            have C0 := cell_regrown c0
            have C1 := cell_regrown c1
            have C2 := cell_regrown c2
            have C3 := cell_regrown c3
            have C4 := cell_regrown c4
            have E0 := cell_regrown e0
            have E1 := cell_regrown e1
            have E2 := cell_regrown e2
            have E3 := cell_regrown e3
            have E4 := cell_regrown e4
            have Hx := Lib.hid hx
            clear hx hy hbf hbf' e0 e1 e2 e3 e4
            go_wp2_with fail
            refine wp_region_quiet_below (by kernel_rfl) (by kernel_rfl) ?_
            repeat (go_big_quiet_step ((go_at_call 70; exact HC.out _ _)))
            refine wpQuiet_nil ?_
            intro wi hwq
            have hbq := below_of_regrown hwq
            clear hwq
            clear hd hap k1 C0 C1 C2 C3 C4 E0 E1 E2 E3 E4
            have hz3 := hz2.trans (hbq.mono hz2.size)
            have o3 := Lib.hid (o2.out.belowS hbq)
            have hgi : g < wi.heap.size := Nat.lt_of_lt_of_le hgw.2 hbq.size
            have hbA : Below wi.heap.size wi (wi.alloc (.cells #[] 30)) := (Below.refl _ _).alloc (Nat.le_refl _) _
            have N0 := Lib.hid (OwnT.new wi)
            have hmd := o3.out.rdS.cap
            have hdm := o3.out.rdS.max
            unfold maxLen at hdm
            have s1 := Lib.hid (rd_take_cells (o3.out.belowS hbA).rdS ham)
            have l1 := Lib.hid (show ((ys.take a).flatMap T.cells).length = a * 5 by rw [flatMap_len T.cells_len, List.length_take, o3.out.2]; rw [Nat.min_eq_left ham])
            clear hbq o2 c0 c1 c2 c3 c4
            go_wp2_with (at_builtin; refine wpList_append_own _ rfl (.tmp 36) (.tmp 39) 23 rfl wi.heap.size 30 inf _ 5 40 Try.underlying23 hi iz0 iz1 iz2 rfl (by decide) _ _ _ rfl N0.out.1 ⟨g, 0, none⟩ a d ((ys.take a).flatMap T.cells) rfl l1.out s1.out (cells_all_one _) ?p3b ?p4b ?p5b ?_)
            case p3b => unfold maxLen; omega
            case p4b => omega
            case p5b => first | omega | (simp; done) | (simp; omega)
            intro v1 w2 hown1 hg1 hn1
            have hg1' : (wi.alloc (.cells #[] 30)).grownBy w2 (some wi.heap.size) := hg1
            have hb12 := hbA.grown hg1' hbA.size (fun k e => by injection e with e; omega)
            have N1 := Lib.hid (show OwnT wi w2 v1 a (ys.take a) from ⟨by simpa using hown1, by rw [List.length_take, o3.out.2]; exact Nat.min_eq_left ham⟩)
            have nn1 := Lib.hid (show v1 ≠ .slice none 0 0 from fun e => by first | exact hn1 e | (have h := (hn1.1 e).1; cases h))
            have hz4 := hz3.trans (hb12.mono hz3.size)
            have o4 := Lib.hid (o3.out.belowS hb12)
            obtain ⟨b', off', x', hA', hx', hb', c0, c1, c2, c3, c4⟩ := (q0.out.below hz4).taskAt hkn
            rw [Hx.out] at hx'
            injection hx' with hx'
            subst hx'
            injection hA' with hA'
            injection hA' with hA1 hA2
            subst hA1 hA2
            have cj := Lib.hid (cells_one w2 x 30 w2.heap.size rfl)
            have N1a := Lib.hid (N1.out.alloc (.cells #[.int .i64 x.low, .int .i64 x.high, .int .i64 x.due, .int .i64 x.every, .bool x.crit] 30))
            have hb12a := Lib.hid (hb12.alloc hb12.size (.cells #[.int .i64 x.low, .int .i64 x.high, .int .i64 x.due, .int .i64 x.every, .bool x.crit] 30))
            have hsz2 := hb12.size
            clear hown1 hg1 hn1 hbA N0 s1 l1 hb12
            go_wp2_with (at_builtin; refine wpList_append_own _ rfl (.tmp 41) (.tmp 46) 23 rfl wi.heap.size 30 inf _ 5 40 Try.underlying23 hi iz0 iz1 iz2 rfl (by decide) _ _ _ rfl N1a.out.1 ⟨w2.heap.size, 0, none⟩ 1 1 x.cells rfl rfl cj.out (cells_oneCell _) ?q3b ?q4b ?q5b ?_)
            case q3b => unfold maxLen; omega
            case q4b => omega
            case q5b => first | omega | (simp; done) | (simp; omega)
            intro v2 w3 hown2 hg2 hn2
            have hb13 := hb12a.out.grown hg2 hb12a.out.size (fun k e => (N1a.out.1.lt k e).1)
            have N2 := Lib.hid (show OwnT wi w3 v2 (a + 1) (ys.take a ++ [x]) from ⟨by rw [List.flatMap_append]; simpa using hown2, by rw [List.length_append, N1.out.2]; rfl⟩)
            have nn2 := Lib.hid (show v2 ≠ .slice none 0 0 from fun e => by first | exact hn2 e | exact nn1.out (hn2.1 e).1)
            have hz5 := hz3.trans (hb13.mono hz3.size)
            have o5 := Lib.hid (o3.out.belowS hb13)
            clear c0 c1 c2 c3 c4 cj N1a hb12a hown2 hg2 hn2 N1 nn1 hsz2 hz4 o4
            by_cases had : a = d
            · have hma : m = a := by omega
              subst had
              subst hma
              have hdr := Lib.hid (show ys.drop m = [] from List.drop_eq_nil_of_le (by rw [o5.out.2]; exact Nat.le_refl _))
              have s3 : ∀ (j : Nat) (u : Value), ([] : List Value)[j]? = some u → w3.cell? ((⟨g, 0, none⟩ : Addr).add j) = some u := fun j u hu => by simp at hu
              go_wp2_with (at_builtin; refine wpList_append_own _ rfl (.tmp 48) (.tmp 51) 23 rfl wi.heap.size 30 inf _ 5 40 Try.underlying23 hi iz0 iz1 iz2 rfl (by decide) _ _ _ rfl N2.out.1 ⟨g, 0, none⟩ 0 0 [] rfl rfl s3 (fun u hu => by simp at hu) ?r3b ?r4b ?r5b ?_)
              case r3b => unfold maxLen; omega
              case r4b => omega
              case r5b => first | omega | exact hb13.size
              intro v3 w4 hown3 hg3 hn3
              have hb14 := hb13.grown hg3 hb13.size (fun k e => (N2.out.1.lt k e).1)
              have N3 := Lib.hid (show OwnT wi w4 v3 (m + 1) (ys.take m ++ [x]) from ⟨by simpa using hown3, N2.out.2⟩)
              have nn3 := Lib.hid (show v3 ≠ .slice none 0 0 from fun e => by first | exact hn3 e | exact nn2.out (hn3.1 e).1 | exact nn2.out (hn3.1 e))
              obtain ⟨g', d', hv3, _⟩ := own_some N3.out nn3.out
              subst hv3
              have N4 := Lib.hid (N3.out.ext hz3.size)
              have hz6 := hz3.trans (hb14.mono hz3.size)
              clear hown3 hg3 hn3 N2 nn2 N3 nn3 hz5 hb13 hb14 s3
              go_wp2
              go_roundw
              case rel => exact ⟨k + 1, g', m + 1, d', _, by go_num, by omega, by omega, rfl, N4.out, hz6⟩
              case measure => simp [intOf]; omega
            · have had2 : ¬ d = a := fun e => had e.symm
              have s3 := Lib.hid (rd_drop_cells o5.out.rdS ham)
              have l3 := Lib.hid (show ((ys.drop a).flatMap T.cells).length = (m - a) * 5 by rw [flatMap_len T.cells_len, List.length_drop, o5.out.2])
              go_wp2_with (at_builtin; refine wpList_append_own _ rfl (.tmp 48) (.tmp 51) 23 rfl wi.heap.size 30 inf _ 5 40 Try.underlying23 hi iz0 iz1 iz2 rfl (by decide) _ _ _ rfl N2.out.1 ⟨g, a * 5, none⟩ (m - a) (d - a) ((ys.drop a).flatMap T.cells) rfl l3.out s3.out (cells_all_one _) ?t3b ?t4b ?t5b ?_)
              case t3b => unfold maxLen; omega
              case t4b => omega
              case t5b => first | omega | exact hb13.size
              intro v3 w4 hown3 hg3 hn3
              have hb14 := hb13.grown hg3 hb13.size (fun k e => (N2.out.1.lt k e).1)
              have hsum : a + 1 + (m - a) = m + 1 := by omega
              have N3 := Lib.hid (show OwnT wi w4 v3 (m + 1) (ys.take a ++ [x] ++ ys.drop a) from ⟨by rw [List.append_assoc, List.flatMap_append, List.flatMap_append, List.flatMap_singleton, ← hsum]; exact hown3, by rw [List.length_append, N2.out.2, List.length_drop, o5.out.2]; omega⟩)
              have nn3 := Lib.hid (show v3 ≠ .slice none 0 0 from fun e => by first | exact hn3 e | exact nn2.out (hn3.1 e).1)
              obtain ⟨g', d', hv3, _⟩ := own_some N3.out nn3.out
              subst hv3
              have N4 := Lib.hid (N3.out.ext hz3.size)
              have hz6 := hz3.trans (hb14.mono hz3.size)
              have hmk1 : m + 1 ≤ k + 1 := by omega
              clear hown3 hg3 hn3 N2 nn2 N3 nn3 hz5 hb13 hb14 s3 l3 hsum
              go_wp2
              go_roundw
              case rel => exact ⟨k + 1, g', m + 1, d', _, by go_num, by omega, by omega, by first | rfl | (congr 1; omega), N4.out, hz6⟩
              case measure => simp [intOf]; omega
          · obtain ⟨b2, off2, y, hA2, hy, hb2, e0, e1, e2, e3, e4⟩ := o2.out.rdS.taskAt (i := a - 1) (by omega)
            injection hA2 with hA2
            injection hA2 with hA2 hA3
            subst hA2 hA3
            rw [Nat.zero_add] at e0 e1 e2 e3 e4
            rw [List.getD_eq_getElem?_getD, hy] at hbf
            have hbf' : befB x y = true := hbf
            have hd : decide (0 < a) = true := by simp; omega
            have hap := Lib.hid (show a = a - 1 + 1 by omega)
            have k1 : IntKind.i64.wrap ((a : Int) - 1) = ((a - 1 : Nat) : Int) := by rw [IntWalk.i64_in _ (by omega)]; omega
            have j0 : (0 : Int) ≤ ((a - 1 : Nat) : Int) := by omega
            have j1 : ((a - 1 : Nat) : Int) < (m : Int) := by omega
            have j2 : a ≤ (a - 1) + 1 := by omega
            have j3 : (a - 1) + 1 ≤ a := by omega
            generalize a - 1 = p at *
            have HC := Lib.hid (fun d os => Calls.regrown_of (d := d) (os := os) (hbf' ▸ l1Before_any x y (Go.Sort.grow (redrawn wr d) os)))
            have C0 := cell_regrown c0
            have C1 := cell_regrown c1
            have C2 := cell_regrown c2
            have C3 := cell_regrown c3
            have C4 := cell_regrown c4
            have E0 := cell_regrown e0
            have E1 := cell_regrown e1
            have E2 := cell_regrown e2
            have E3 := cell_regrown e3
            have E4 := cell_regrown e4
            have Hx := Lib.hid hx
            clear hx hy hbf hbf' e0 e1 e2 e3 e4
            go_wp2_with fail
            refine wp_region_quiet_below (by kernel_rfl) (by kernel_rfl) ?_
            repeat (go_big_quiet_step ((go_at_call 70; exact HC.out _ _)))
            refine wpQuiet_nil ?_
            intro wi hwq
            have hbq := below_of_regrown hwq
            clear hwq
            clear hd hap k1 C0 C1 C2 C3 C4 E0 E1 E2 E3 E4
            have hz3 := hz2.trans (hbq.mono hz2.size)
            have o3 := o2.out.belowS hbq
            clear c0 c1 c2 c3 c4 hbq
            go_wp2
            go_roundw
            case rel => exact ⟨p, by go_num, by omega, hz3, o3⟩
            case measure => simp [intOf]; omega
    · have hkn' : k = n := by omega
      subst hkn'
      go_wp2
      go_ret
      exact ⟨_, _, _, ys, rfl, by omega, ho.out, hbel⟩

end Go.Proofs.Ytbfdpegjflhboaa
