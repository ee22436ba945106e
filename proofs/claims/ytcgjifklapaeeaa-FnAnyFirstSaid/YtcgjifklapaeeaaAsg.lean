/- The contracts of AssignOrder, of the program and of the reference. No condition. -/
import Derived.Test.YtcgjifklapaeeaaCan
import Derived.Test.YtcgjifklapaeeaaPut
import Derived.Test.YtcgjifklapaeeaaDrawO
import Derived.Deep.CutBlock
import Derived.Deep.DeepCutAuto
namespace Go.Proofs.Ytcgjifklapaeeaa
open Go.RowKit
set_option linter.unusedVariables false

/-- the last of the first ones that can be last -/
def lastFrom (ys : List T) : Nat → Option Nat
  | 0 => none
  | k + 1 => if lastB ys (k : Int) = true then some k else lastFrom ys k
theorem lastFrom_yes {ys : List T} {k : Nat} (h : lastB ys (k : Int) = true) : lastFrom ys (k + 1) = some k := by simp [lastFrom, h]
theorem lastFrom_no {ys : List T} {k : Nat} (h : lastB ys (k : Int) = false) : lastFrom ys (k + 1) = lastFrom ys k := by simp [lastFrom, h]
theorem lastFrom_lt {ys : List T} {m a : Nat} (h : lastFrom ys m = some a) : a < m := by
  induction m with
  | zero => cases h
  | succ m ih =>
    unfold lastFrom at h
    split at h
    · injection h with h; omega
    · have := ih h; omega
def asgF (xs : List T) : Nat → List Int → List Int → Option (List Int)
  | 0, _, O => some O
  | m + 1, L, O => match lastFrom (putL xs L) (m + 1) with
    | none => none
    | some a => asgF xs m (L.eraseIdx a) ((L[a]?).getD 0 :: O)
theorem asgF_none {xs : List T} {m : Nat} {L O : List Int} (h : lastFrom (putL xs L) (m + 1) = none) : asgF xs (m + 1) L O = none := by simp [asgF, h]
theorem asgF_some {xs : List T} {m a : Nat} {v : Int} {L O : List Int} (h : lastFrom (putL xs L) (m + 1) = some a) (hv : L[a]? = some v) : asgF xs (m + 1) L O = asgF xs m (L.eraseIdx a) (v :: O) := by simp [asgF, h, hv]
def natI (n : Nat) : List Int := (List.range n).map (fun i : Nat => (i : Int))
theorem natI_succ (n : Nat) : natI (n + 1) = natI n ++ [(n : Int)] := by simp [natI, List.range_succ]
theorem natI_len (n : Nat) : (natI n).length = n := by simp [natI]
theorem natI_in {n : Nat} : ∀ x ∈ natI n, 0 ≤ x ∧ x < n := by
  intro x hx
  obtain ⟨i, hi, rfl⟩ := List.mem_map.1 hx
  have := List.mem_range.1 hi
  omega
def asgV (xs : List T) : Option (List Int) := if svB xs = true then asgF xs xs.length (natI xs.length) [] else none
theorem asgV_no {xs : List T} (h : svB xs = false) : asgV xs = none := by simp [asgV, h]
theorem asgV_yes {xs : List T} {n : Nat} (h : svB xs = true) (hl : xs.length = n) : asgF xs n (natI n) [] = asgV xs := by simp [asgV, h, hl]
def lenV : Value → Nat
  | .slice _ n _ => n
  | _ => 0
theorem lenV_slice (a : Option Addr) (n c : Nat) : lenV (.slice a n c) = n := rfl
theorem OwnI.ext5 {w w' w1 : World} {v : Value} {m : Nat} {xs : List Int} (h : OwnI w' w1 v m xs) (hs : w.heap.size ≤ w'.heap.size) : OwnI w w1 v m xs := by
  refine ⟨⟨h.1.1, ?_⟩, h.2⟩
  rcases h.1.2 with h0 | ⟨g, cap, cur, hv, hb, r⟩
  · exact Or.inl h0
  · exact Or.inr ⟨g, cap, cur, hv, Nat.le_trans hs hb, r⟩
theorem own_someI {w w1 : World} {v : Value} {m : Nat} {xs : List Int} (h : OwnI w w1 v m xs) (hn : v ≠ .slice none 0 0) : ∃ g c, v = .slice (some ⟨g, 0, none⟩) m c ∧ w.heap.size ≤ g := by
  rcases h.form with ⟨e, _⟩ | h
  · exact absurd e hn
  · exact h
theorem OwnI.rd5 {w w1 : World} {A : Option Addr} {c m : Nat} {xs : List Int} (h : OwnI w w1 (.slice A m c) m xs) : RdI w1 A m c xs := Rd.of_own icells_len h.1 h.2
theorem OwnI.below5 {w w1 w2 : World} {v : Value} {m : Nat} {xs : List Int} (h : OwnI w w1 v m xs) (hb : Below w1.heap.size w1 w2) : OwnI w w2 v m xs := ⟨own_below h.1 hb, h.2⟩
theorem OwnI.one (w : World) (x : Int) : OwnI w (w.alloc (.cells #[.int .i64 x] 3)) (.slice (some ⟨w.heap.size, 0, none⟩) 1 1) 1 [x] :=
  ⟨World.ownsRow_lit (size := 1) (e := 3) (base := w.heap.size) w #[.int .i64 x] 1 (Nat.le_refl _) (by decide) rfl, rfl⟩
theorem rdI_cells {w : World} {b off n c : Nat} {xs : List Int} (h : RdI w (some ⟨b, off, none⟩) n c xs) : ∀ j u, (xs.flatMap icells)[j]? = some u → w.cell? ((⟨b, off, none⟩ : Addr).add j) = some u := by
  intro j u hu
  have hj : j < (xs.flatMap icells).length := (List.getElem?_eq_some_iff.1 hu).1
  rw [flatMap_len icells_len, Nat.mul_one, h.len] at hj
  obtain ⟨b', off', x, e, hx, _, hc⟩ := h.intAt hj
  injection e with e; injection e with e1 e2
  subst e1 e2
  have h2 := flatMap_get icells_len hx (j := 0) (u := .int .i64 x) rfl
  rw [Nat.mul_one, Nat.add_zero] at h2
  rw [h2] at hu
  injection hu with hu
  rw [Addr.add_lit, ← hu]
  exact hc
theorem rdI_take_at {w : World} {b off d m : Nat} {ys : List Int} (h : RdI w (some ⟨b, off, none⟩) m d ys) {a : Nat} (ha : a ≤ m) : ∀ j u, ((ys.take a).flatMap icells)[j]? = some u → w.cell? ((⟨b, off, none⟩ : Addr).add j) = some u :=
  rdI_cells (h.take ha)
theorem rdI_drop_at {w : World} {b off d m : Nat} {ys : List Int} (h : RdI w (some ⟨b, off, none⟩) m d ys) {a : Nat} (ha : a ≤ m) : ∀ j u, ((ys.drop a).flatMap icells)[j]? = some u → w.cell? ((⟨b, off + a, none⟩ : Addr).add j) = some u := by
  intro j u hu
  have h2 : (ys.take a).flatMap icells ++ (ys.drop a).flatMap icells = ys.flatMap icells := by rw [← List.flatMap_append, List.take_append_drop]
  have h3 : ((ys.take a).flatMap icells).length = a := by rw [flatMap_len icells_len, Nat.mul_one, List.length_take, h.len, Nat.min_eq_left ha]
  have h4 : (ys.flatMap icells)[a + j]? = some u := by
    rw [← h2, List.getElem?_append_right (by omega), h3, Nat.add_sub_cancel_left]; exact hu
  have h5 := rdI_cells h _ u h4
  rw [Addr.add_lit] at h5 ⊢
  rw [← Nat.add_assoc] at h5
  exact h5

set_option maxRecDepth 100000 in
set_option maxHeartbeats 25600000 in
theorem assignOrder_spec (A : Option Addr) (n c : Nat) (xs : List T) (w : World) (h : RdT w A n c xs) :
    Calls Try.prog 17 #[.slice A n c] w fun e w' => ∃ (D : Option Addr) (k d : Nat), e = .returned (.tuple #[.slice D k d, .bool (asgV xs).isSome]) ∧ OwnI w w' (.slice D k d) k ((asgV xs).getD []) ∧ Below w.heap.size w w' := by
  obtain ⟨inf, hi, iz0, iz1, iz2⟩ := info_parts infoIntD
  have q0 := Lib.hid h
  have hz0 := Below.refl w.heap.size w
  cases hs : svB xs
  · have Hs := Lib.hid hs
    have HN := Lib.hid (asgV_no hs)
    clear h hs
    go_enter Try.func17, Try.ntmps17
    go_wp2_with fail
    refine (setValid_spec A n c xs w q0.out).mono ?_
    rw [Hs.out]
    rintro e w1 ⟨rfl, hb1⟩
    have hz1 := hz0.trans (hb1.mono hz0.size)
    replace q0 := Lib.hid (q0.out.below hb1)
    clear hb1
    have o9 := Lib.hid ((OwnI.new w1).ext5 (w := w) hz1.size)
    have hz9 := hz1.alloc hz1.size (.cells #[] 3)
    go_wp2
    go_ret2
    exact ⟨_, _, _, by rw [HN.out]; rfl, by rw [HN.out]; exact o9.out, hz9⟩
  · have hn5 : n ≤ 5 := by have := (sv_all hs).1; rw [h.len] at this; exact this
    have Hs := Lib.hid hs
    have HV := Lib.hid (asgV_yes hs h.len)
    clear h hs
    go_enter Try.func17, Try.ntmps17
    go_wp2_with fail
    refine (setValid_spec A n c xs w q0.out).mono ?_
    rw [Hs.out]
    rintro e w1 ⟨rfl, hb1⟩
    have hz1 := hz0.trans (hb1.mono hz0.size)
    replace q0 := Lib.hid (q0.out.below hb1)
    clear hb1
    have o0 := Lib.hid (OwnI.new w1)
    go_wp2_with fail
    go_loopw [4, 5] (fun v i wr => ∃ j g d : Nat, i = .int .i64 j ∧ j ≤ n ∧ v = .slice (some ⟨g, 0, none⟩) j d ∧ Hid (OwnI w1 wr v j (natI j)) ∧ Below w1.heap.size w1 wr) (fun _ i _ => n - (intOf i).toNat)
    case atStart => exact ⟨0, _, _, rfl, Nat.zero_le _, rfl, o0, (Below.refl _ _).alloc (Nat.le_refl _) _⟩
    case round =>
      obtain ⟨j, g, d, rfl, hj, rfl, ho, hb⟩ := hrel
      clear o0
      by_cases hjn : j < n
      · have o1 := Lib.hid (ho.out.alloc (.cells #[.int .i64 (j : Int)] 3))
        have hb1 := hb.alloc hb.size (.cells #[.int .i64 (j : Int)] 3)
        have c1 := Lib.hid (show ∀ t u, ([(j : Int)].flatMap icells)[t]? = some u → (wr.alloc (.cells #[.int .i64 (j : Int)] 3)).cell? ((⟨wr.heap.size, 0, none⟩ : Addr).add t) = some u from by simpa using cell_one wr (j : Int) 3 wr.heap.size rfl)
        have hbs := hb.size
        clear ho hb
        go_wp2_with (at_builtin; refine wpList_append_own _ rfl (.tmp 21) (.tmp 23) 26 rfl w1.heap.size 3 inf _ 1 8 Try.underlying26 hi iz0 iz1 iz2 rfl (by decide) _ _ _ rfl o1.out.1 ⟨wr.heap.size, 0, none⟩ 1 1 ([(j : Int)].flatMap icells) rfl rfl c1.out (icells_all_one _) ?c3 ?c4 ?c5 ?_)
        case c3 => unfold maxLen; omega
        case c4 => omega
        case c5 => first | omega | (simp; omega)
        intro v5 w5 hown5 hg5 hn5
        have o5 := Lib.hid (show OwnI w1 w5 v5 (j + 1) (natI (j + 1)) from ⟨by rw [natI_succ, List.flatMap_append]; simpa using hown5, natI_len _⟩)
        have hb5 := hb1.grown hg5 hb1.size (fun k e => (o1.out.1.lt k e).1)
        obtain ⟨g5, d5, rfl, _⟩ := own_someI o5.out (fun e => by first | exact hn5 e | (have := (hn5.1 e).1; cases this))
        clear hown5 hg5 hn5 o1 hb1 c1
        go_wp2
        go_roundw
        case rel => exact ⟨j + 1, _, _, by go_num, by omega, rfl, o5, hb5⟩
        case measure => simp [intOf]; omega
      · have hjn' : n = j := by omega
        subst hjn'
        have o6 := Lib.hid ((OwnI.new wr).ext5 (w := w1) hb.size)
        have o4 := Lib.hid (ho.out.alloc (.cells #[] 3))
        have hba := hb.alloc hb.size (.cells #[] 3)
        clear ho hb
        go_wp2_with fail
        go_loopw [4, 6] (fun v4 v6 wx => ∃ (m : Nat) (L O : List Int) (g4 d4 g6 d6 : Nat), v4 = .slice (some ⟨g4, 0, none⟩) m d4 ∧ v6 = .slice (some ⟨g6, 0, none⟩) (n - m) d6 ∧ m ≤ n ∧ Hid (OwnI w1 wx v4 m L) ∧ Hid (OwnI w1 wx v6 (n - m) O) ∧ Hid (∀ x ∈ L, 0 ≤ x ∧ x < n) ∧ Hid (asgF xs m L O = asgV xs) ∧ Below w1.heap.size w1 wx) (fun v4 _ _ => lenV v4)
        case atStart => exact ⟨n, natI n, [], _, _, wr.heap.size, 0, rfl, by rw [Nat.sub_self], Nat.le_refl _, o4, Lib.hid (by rw [Nat.sub_self]; exact o6.out), Lib.hid natI_in, HV, hba⟩
        case round =>
          obtain ⟨m, L, O, g4, d4, g6, d6, rfl, rfl, hm, hL, hO, hin, hA, hb⟩ := hrel
          clear o6 o4 hba
          have hbw := hz1.trans (hb.mono hz1.size)
          rcases Nat.eq_zero_or_pos m with hm0 | hm1
          · subst hm0
            have HN := Lib.hid (show asgV xs = some O from hA.out.symm)
            have oR := Lib.hid (hO.out.ext5 (w := w) hz1.size)
            simp only [Nat.sub_zero] at oR ⊢
            go_wp2
            go_ret2
            exact ⟨_, _, _, by rw [HN.out]; rfl, by rw [HN.out]; exact oR.out, hbw⟩
          · obtain ⟨m, rfl⟩ : ∃ m', m = m' + 1 := ⟨m - 1, by omega⟩
            have rI := Lib.hid hL.out.rd5
            have hcap := rI.out.cap
            have hmax := rI.out.max
            unfold maxLen at hmax
            go_wp2_with fail
            refine (l4Put_any A _ n c (m + 1) d4 xs L _ (q0.out.below hb) rI.out hin.out (by omega)).mono ?_
            rintro e w2 ⟨Dp, dp, rfl, oP, hb2⟩
            have qP := Lib.hid oP.rdS
            replace hL := Lib.hid (hL.out.below5 hb2)
            replace hO := Lib.hid (hO.out.below5 hb2)
            have hb12 := hb.trans (hb2.mono hb.size)
            have HNO := Lib.hid (fun e : lastFrom (putL xs L) (m + 1) = none => hA.out.symm.trans (asgF_none e))
            have HYES := Lib.hid (fun (a : Nat) (v : Int) (e : lastFrom (putL xs L) (m + 1) = some a) (hv : L[a]? = some v) => (asgF_some e hv).symm.trans hA.out)
            generalize putL xs L = ys at *
            clear oP rI hA hb hbw hb2
            go_upto_block 4 with fail
            go_cut [7] (fun s7 wx2 => ((s7 = .int .i64 (-1) ∧ Hid (lastFrom ys (m + 1) = none)) ∨ ∃ a : Nat, s7 = .int .i64 a ∧ a < m + 1 ∧ Hid (lastFrom ys (m + 1) = some a)) ∧ Below w2.heap.size w2 wx2)
            case first =>
              go_wp2_with fail
              go_loopw [7, 9] (fun v7 v9 wy => ∃ j : Nat, v9 = .int .i64 ((j : Int) - 1) ∧ j ≤ m + 1 ∧ ((v7 = .int .i64 (-1) ∧ Hid (lastFrom ys j = lastFrom ys (m + 1))) ∨ ∃ a : Nat, v7 = .int .i64 a ∧ Hid (lastFrom ys (m + 1) = some a)) ∧ Below w2.heap.size w2 wy) (fun _ v9 _ => (intOf v9 + 1).toNat)
              case atStart => exact ⟨m + 1, by go_num, Nat.le_refl _, Or.inl ⟨rfl, Lib.hid rfl⟩, Below.refl _ _⟩
              case round =>
                obtain ⟨j, rfl, hj, hcase, hby⟩ := hrel
                rcases hcase with ⟨rfl, hno⟩ | ⟨a, rfl, hya⟩
                · rcases Nat.eq_zero_or_pos j with h0 | h1
                  · subst h0
                    go_wp2_with fail
                    go_meet
                    case rel => exact ⟨Or.inl ⟨rfl, Lib.hid hno.out.symm⟩, hby⟩
                  · obtain ⟨j, rfl⟩ : ∃ j', j = j' + 1 := ⟨j - 1, by omega⟩
                    have hji : (((j + 1 : Nat) : Int) - 1) = (j : Int) := by omega
                    rw [hji]
                    have j0 : (0 : Int) ≤ (j : Int) := by omega
                    have HL1 := Lib.hid (fun e => (lastFrom_no (ys := ys) (k := j) e).symm.trans hno.out)
                    have HL2 := Lib.hid (fun e => hno.out.symm.trans (lastFrom_yes (ys := ys) (k := j) e))
                    go_wp2_with fail
                    refine (canBeLast_spec Dp (m + 1) dp ys j _ (qP.out.below hby)).mono ?_
                    cases hlb : lastB ys (j : Int)
                    · rintro e w5 ⟨rfl, hb5⟩
                      have hb25 := hby.trans (hb5.mono hby.size)
                      have hR := Lib.hid (HL1.out hlb)
                      clear hlb HL1 HL2 hno
                      go_wp2
                      go_roundw
                      case rel => exact ⟨j, by go_num, by omega, Or.inl ⟨rfl, hR⟩, hb25⟩
                      case measure => simp [intOf]
                    · rintro e w5 ⟨rfl, hb5⟩
                      have hb25 := hby.trans (hb5.mono hby.size)
                      have hR := Lib.hid (HL2.out hlb)
                      clear hlb HL1 HL2 hno
                      go_wp2
                      go_roundw
                      case rel => exact ⟨j, by go_num, by omega, Or.inr ⟨j, rfl, hR⟩, hb25⟩
                      case measure => simp [intOf]
                · have ha0 : ¬ (a : Int) < 0 := by omega
                  rcases Nat.eq_zero_or_pos j with h0 | h1
                  · subst h0
                    go_wp2_with fail
                    go_meet
                    case rel => exact ⟨Or.inr ⟨a, rfl, lastFrom_lt hya.out, hya⟩, hby⟩
                  · obtain ⟨j, rfl⟩ : ∃ j', j = j' + 1 := ⟨j - 1, by omega⟩
                    have hji : (((j + 1 : Nat) : Int) - 1) = (j : Int) := by omega
                    rw [hji]
                    have j0 : (0 : Int) ≤ (j : Int) := by omega
                    go_wp2_with fail
                    go_meet
                    case rel => exact ⟨Or.inr ⟨a, rfl, lastFrom_lt hya.out, hya⟩, hby⟩
            case rest =>
              obtain ⟨hc, hb3⟩ := hcut
              have hb13 := hb12.trans (hb3.mono hb12.size)
              have hz3 := hz1.trans (hb13.mono hz1.size)
              rcases hc with ⟨rfl, hno⟩ | ⟨a, rfl, ham, hya⟩
              · have HN := Lib.hid (HNO.out hno.out)
                clear HNO HYES
                have o9 := Lib.hid ((OwnI.new wc).ext5 (w := w) hz3.size)
                have hz9 := hz3.alloc hz3.size (.cells #[] 3)
                go_wp2
                go_ret2
                exact ⟨_, _, _, by rw [HN.out]; rfl, by rw [HN.out]; exact o9.out, hz9⟩
              · obtain ⟨b', off', v, hA', hval, hlt, c0⟩ := (hL.out.below5 hb3).rd5.intAt ham
                injection hA' with hA'
                injection hA' with hA1 hA2
                subst hA1 hA2
                have HR := Lib.hid (HYES.out a v hya.out hval)
                clear HNO HYES
                have a0 : (0 : Int) ≤ (a : Int) := by omega
                rw [Nat.zero_add] at c0
                have a00 : decide ((a : Int) < 0) = false := by simp
                have a1 : (a : Int) < (m : Int) + 1 := by omega
                have N1 := Lib.hid (OwnI.one wc v)
                have hbA := (Below.refl wc.heap.size wc).alloc (Nat.le_refl _) (.cells #[.int .i64 v] 3)
                have oC := Lib.hid (hO.out.below5 hb3)
                have hLC := Lib.hid (hL.out.below5 hb3)
                have s6 := Lib.hid (rdI_cells (oC.out.alloc (.cells #[.int .i64 v] 3)).rd5)
                have l6 := Lib.hid (show (O.flatMap icells).length = (n - (m + 1)) * 1 by rw [flatMap_len icells_len, oC.out.2])
                have hmH := Lib.hid (show n - (m + 1) + 1 = n - m by omega)
                have hmn : 1 + (n - (m + 1)) = n - m := by omega
                clear hval hlt
                go_wp2_with (at_builtin; refine wpList_append_own _ rfl (.tmp 54) (.tmp 55) 26 rfl wc.heap.size 3 inf _ 1 8 Try.underlying26 hi iz0 iz1 iz2 rfl (by decide) _ _ _ rfl N1.out.1 ⟨g6, 0, none⟩ (n - (m + 1)) d6 (O.flatMap icells) rfl l6.out s6.out (icells_all_one _) ?p3 ?p4 ?p5 ?_)
                case p3 => unfold maxLen; omega
                case p4 => omega
                intro v6 w6 hown6 hg6 hn6
                have o6 := Lib.hid (show OwnI wc w6 v6 (n - m) (v :: O) from ⟨by first | (simpa using hown6) | (rw [← hmn]; simpa using hown6), by rw [List.length_cons, oC.out.2]; exact hmH.out⟩)
                have hb6 := hbA.grown hg6 hbA.size (fun k e => (N1.out.1.lt k e).1)
                obtain ⟨g6', d6', rfl, _⟩ := own_someI o6.out (fun e => by first | exact hn6 e | (have := (hn6.1 e).1; cases this))
                replace hLC := Lib.hid (hLC.out.below5 hb6)
                have hz6 := hb13.trans (hb6.mono hb13.size)
                clear hown6 hg6 hn6 N1 hbA s6 l6 oC c0
                have hinF := Lib.hid (show ∀ x ∈ L.eraseIdx a, 0 ≤ x ∧ x < n from fun x hx => hin.out x (List.mem_of_mem_eraseIdx hx))
                have hd4 : m + 1 ≤ d4 := hcap
                have hbB := ((Below.refl w6.heap.size w6).alloc (Nat.le_refl _) (.cells #[] 3)).drew
                have N0 := Lib.hid (show OwnI w6 ((w6.alloc (.cells #[] 3)).drew) (.slice (some ⟨w6.heap.size, 0, none⟩) 0 0) 0 [] from OwnI.new w6)
                have t1 := Lib.hid (rdI_take_at (hLC.out.below5 hbB).rd5 (a := a) (by omega))
                have l1 := Lib.hid (show ((L.take a).flatMap icells).length = a * 1 by rw [flatMap_len icells_len, List.length_take, hLC.out.2, Nat.min_eq_left (by omega)])
                have l2 := Lib.hid (show ((L.drop (a + 1)).flatMap icells).length = (m + 1 - (a + 1)) * 1 by rw [flatMap_len icells_len, List.length_drop, hLC.out.2])
                have hlen := Lib.hid (show a + (m + 1 - (a + 1)) = m by omega)
                have i1 : (a : Int) ≤ (d4 : Int) := by omega
                have i2 : (0 : Int) ≤ (a : Int) + 1 := by omega
                have i3 : (a : Int) + 1 ≤ (m : Int) + 1 := by omega
                have i4 : (m : Int) + 1 ≤ (d4 : Int) := by omega
                have i5 : IntKind.i64.wrap ((a : Int) + 1) = (a : Int) + 1 := IntWalk.i64_in _ (by omega)
                by_cases hc1 : d4 = a + 1
                · obtain rfl : m = a := by omega
                  subst hc1
                  have e1 : (m : Int) ≤ (m : Int) + 1 := by omega
                  have hdr : L.drop (m + 1) = [] := List.drop_eq_nil_of_le (by rw [hLC.out.2]; exact Nat.le_refl _)
                  have He := Lib.hid (show L.take m = L.eraseIdx m by rw [erase_eq, hdr, List.append_nil])
                  clear hdr l2 hlen
                  go_wp2_with fail
                  go_region_law (first
                    | (refine step_own rfl (.tmp 57) (.tmp 60) 26 rfl w6.heap.size 3 inf _ 1 8 Try.underlying26 hi iz0 iz1 iz2 rfl (by decide) _ _ _ rfl N0.out.1 ⟨g4, 0, none⟩ m (m + 1) ((L.take m).flatMap icells) rfl l1.out t1.out (icells_all_one _) (by unfold maxLen; omega) (by omega) (by simp) ?_; intro v7 w7 hown7 hg7 hn7; have hg7' : ((w6.alloc (.cells #[] 3)).drew).grownBy w7 (some w6.heap.size) := hg7; have hb7 := hbB.grown hg7' hbB.size (fun k e => by injection e with e; omega); have N7 := Lib.hid (show OwnI w6 w7 v7 m (L.take m) from ⟨by simpa using hown7, by rw [List.length_take, hLC.out.2]; omega⟩); have nn7 := Lib.hid (show v7 ≠ .slice none 0 0 from fun e => by first | exact hn7 e | (have h := (hn7.1 e).1; cases h)); clear hown7 hg7 hg7' hn7)
                    | (refine step_own rfl (.tmp 61) (.tmp 65) 26 rfl w6.heap.size 3 inf _ 1 8 Try.underlying26 hi iz0 iz1 iz2 rfl (by decide) _ _ _ rfl N7.out.1 ⟨g4, 0, none⟩ 0 0 [] rfl rfl (fun j u hu => by simp at hu) (fun u hu => by simp at hu) (by unfold maxLen; omega) (by omega) hb7.size ?_; intro v8 w8 hown8 hg8 hn8; have hb8 := hb7.grown hg8 hb7.size (fun g e => (N7.out.1.lt g e).1); have N8 := Lib.hid (show OwnI w6 w8 v8 m (L.take m) from ⟨by simpa using hown8, N7.out.2⟩); have nn8 := Lib.hid (show v8 ≠ .slice none 0 0 from fun e => by first | exact hn8 e | exact nn7.out (hn8.1 e).1 | exact nn7.out (hn8.1 e)); clear hown8 hg8 hn8))
                  rw [He.out] at N8
                  obtain ⟨g9, d9, hv, _⟩ := own_someI N8.out nn8.out
                  subst hv
                  have hbF := hz6.trans (hb8.mono hz6.size)
                  have oF := Lib.hid ((o6.out.below5 hb8).ext5 (w := w1) hb13.size)
                  have oL := Lib.hid (N8.out.ext5 (w := w1) hz6.size)
                  go_wp2
                  go_roundw
                  case rel => (repeat apply Exists.intro); exact ⟨⟨m, _, _, _, _, _, _, rfl, rfl, by omega, oL, oF, hinF, HR, hbF⟩, rfl⟩
                  case measure => first | exact Nat.lt_succ_self _ | simp [lenV_slice]
                · have hc2 : ¬ a + 1 = d4 := fun e => hc1 e.symm
                  go_wp2_with fail
                  go_region_law (first
                    | (refine step_own rfl (.tmp 57) (.tmp 60) 26 rfl w6.heap.size 3 inf _ 1 8 Try.underlying26 hi iz0 iz1 iz2 rfl (by decide) _ _ _ rfl N0.out.1 ⟨g4, 0, none⟩ a d4 ((L.take a).flatMap icells) rfl l1.out t1.out (icells_all_one _) (by unfold maxLen; omega) (by omega) (by simp) ?_; intro v7 w7 hown7 hg7 hn7; have hg7' : ((w6.alloc (.cells #[] 3)).drew).grownBy w7 (some w6.heap.size) := hg7; have hb7 := hbB.grown hg7' hbB.size (fun k e => by injection e with e; omega); have N7 := Lib.hid (show OwnI w6 w7 v7 a (L.take a) from ⟨by simpa using hown7, by rw [List.length_take, hLC.out.2]; omega⟩); have nn7 := Lib.hid (show v7 ≠ .slice none 0 0 from fun e => by first | exact hn7 e | (have h := (hn7.1 e).1; cases h)); have t2 := Lib.hid (rdI_drop_at (hLC.out.below5 hb7).rd5 (a := a + 1) (by omega)); clear hown7 hg7 hg7' hn7)
                    | (refine step_own rfl (.tmp 61) (.tmp 65) 26 rfl w6.heap.size 3 inf _ 1 8 Try.underlying26 hi iz0 iz1 iz2 rfl (by decide) _ _ _ rfl N7.out.1 ⟨g4, 0 + (a + 1), none⟩ (m + 1 - (a + 1)) (d4 - (a + 1)) ((L.drop (a + 1)).flatMap icells) (by first | rfl | (simp [Act.eval]; done)) l2.out t2.out (icells_all_one _) (by unfold maxLen; omega) (by omega) hb7.size ?_; intro v8 w8 hown8 hg8 hn8; have hb8 := hb7.grown hg8 hb7.size (fun g e => (N7.out.1.lt g e).1); have N8 := Lib.hid (show OwnI w6 w8 v8 m (L.eraseIdx a) from ⟨by rw [erase_eq, List.flatMap_append, ← hlen.out]; exact hown8, by rw [List.length_eraseIdx_of_lt (by rw [hLC.out.2]; exact ham), hLC.out.2]; rfl⟩); have nn8 := Lib.hid (show v8 ≠ .slice none 0 0 from fun e => by first | exact hn8 e | exact nn7.out (hn8.1 e).1); clear hown8 hg8 hn8))
                  obtain ⟨g9, d9, hv, _⟩ := own_someI N8.out nn8.out
                  subst hv
                  have hbF := hz6.trans (hb8.mono hz6.size)
                  have oF := Lib.hid ((o6.out.below5 hb8).ext5 (w := w1) hb13.size)
                  have oL := Lib.hid (N8.out.ext5 (w := w1) hz6.size)
                  go_wp2
                  go_roundw
                  case rel => (repeat apply Exists.intro); exact ⟨⟨m, _, _, _, _, _, _, rfl, rfl, by omega, oL, oF, hinF, HR, hbF⟩, rfl⟩
                  case measure => first | exact Nat.lt_succ_self _ | simp [lenV_slice]


theorem rep_set (m : Nat) (O : List Int) (v : Int) : (List.replicate (m + 1) (0 : Int) ++ O).set m v = List.replicate m 0 ++ v :: O := by
  rw [List.replicate_succ', List.append_assoc, List.set_append_right _ _ (by simp), List.length_replicate, Nat.sub_self]
  rfl
theorem rep_cells (n : Nat) : (List.replicate n (0 : Int)).flatMap icells = List.replicate n (.int .i64 0) := by
  induction n with
  | zero => rfl
  | succ n ih => rw [List.replicate_succ, List.flatMap_cons, ih, List.replicate_succ]; rfl
theorem grown_set5 (w : World) (g o : Nat) (v : Value) : w.grownBy (w.setCell ⟨g, o, none⟩ v) (some g) :=
  ⟨rfl, rfl, rfl, by simp, fun k _ hk => heap_setCell_other w _ k v (fun e => hk (by rw [e]))⟩
theorem OwnI.keep5 {w w1 w2 : World} {v : Value} {m : Nat} {xs : List Int} (h : OwnI w w1 v m xs) {g : Nat} (hg : w1.grownBy w2 (some g)) (hne : v.ownBlock ≠ some g) : OwnI w w2 v m xs := ⟨h.1.kept hg (Or.inr hne), h.2⟩

set_option maxRecDepth 100000 in
set_option maxHeartbeats 25600000 in
theorem assignOrder_impl (A : Option Addr) (n c : Nat) (xs : List T) (w : World) (h : RdT w A n c xs) :
    Calls Try.prog 16 #[.slice A n c] w fun e w' => ∃ (D : Option Addr) (k d : Nat), e = .returned (.tuple #[.slice D k d, .bool (asgV xs).isSome]) ∧ OwnI w w' (.slice D k d) k ((asgV xs).getD []) ∧ Below w.heap.size w w' := by
  obtain ⟨inf, hi, iz0, iz1, iz2⟩ := info_parts infoIntD
  obtain ⟨inT, hit, jz0, jz1, jz2⟩ := info_parts infoTaskD
  have q0 := Lib.hid h
  have hz0 := Below.refl w.heap.size w
  cases hs : svB xs
  · have Hs := Lib.hid hs
    have HN := Lib.hid (asgV_no hs)
    clear h hs
    go_enter Try.func16, Try.ntmps16
    go_wp2_with fail
    refine (setValid_impl A n c xs w q0.out).mono ?_
    rw [Hs.out]
    rintro e w1 ⟨rfl, hb1⟩
    have hz1 := hz0.trans (hb1.mono hz0.size)
    replace q0 := Lib.hid (q0.out.below hb1)
    clear hb1
    go_wp2
    go_ret2
    exact ⟨_, _, _, by rw [HN.out]; rfl, by rw [HN.out]; exact ⟨World.ownsRow_nil _ _ _ _, rfl⟩, hz1⟩
  · have hn5 : n ≤ 5 := by have := (sv_all hs).1; rw [h.len] at this; exact this
    have Hs := Lib.hid hs
    have HV := Lib.hid (asgV_yes hs h.len)
    clear h hs
    go_enter Try.func16, Try.ntmps16
    go_wp2_with fail
    refine (setValid_impl A n c xs w q0.out).mono ?_
    rw [Hs.out]
    rintro e w1 ⟨rfl, hb1⟩
    have hz1 := hz0.trans (hb1.mono hz0.size)
    replace q0 := Lib.hid (q0.out.below hb1)
    clear hb1
    go_wp2_with (at_make; refine wpList_make_full _ rfl _ _ 26 rfl w1.heap.size 3 inf _ 1 Try.underlying26 hi iz0 iz1 _ _ _ _ n rfl rfl rfl rfl ?_ ?_ (Nat.le_refl _) ?_)
    · rw [iz2]; omega
    · unfold maxLen; omega
    intro w2 hownR hgR
    have hb2 : Below w1.heap.size w1 w2 := (Below.refl _ _).grown hgR (Nat.le_refl _) (fun k hk => by cases hk)
    have oR := Lib.hid (show OwnI w1 w2 (.slice (some ⟨w1.heap.size, 0, none⟩) n n) n (List.replicate n 0 ++ []) from ⟨by rw [List.append_nil, rep_cells, ← toList_madeCells_one]; exact hownR, by simp⟩)
    have hGlt := (oR.out.1.lt _ rfl).2
    generalize hG : w1.heap.size = G at hb2 hownR hGlt ⊢
    have HG := Lib.hid hG
    have HGl := Lib.hid hGlt
    rw [hG] at oR
    clear hG hgR hownR
    have o0 := Lib.hid (OwnI.new w2)
    go_wp2_with fail
    go_loopw [5, 21] (fun v i wr => ∃ j g d : Nat, i = .int .i64 j ∧ j ≤ n ∧ v = .slice (some ⟨g, 0, none⟩) j d ∧ Hid (OwnI w2 wr v j (natI j)) ∧ Below w2.heap.size w2 wr) (fun _ i _ => n - (intOf i).toNat)
    case atStart => exact ⟨0, _, _, rfl, Nat.zero_le _, rfl, o0, (Below.refl _ _).alloc (Nat.le_refl _) _⟩
    case round =>
      obtain ⟨j, g, d, rfl, hj, rfl, ho, hb⟩ := hrel
      clear o0
      by_cases hjn : j < n
      · have o1 := Lib.hid (ho.out.alloc (.cells #[.int .i64 (j : Int)] 3))
        have hb1 := hb.alloc hb.size (.cells #[.int .i64 (j : Int)] 3)
        have c1 := Lib.hid (show ∀ t u, ([(j : Int)].flatMap icells)[t]? = some u → (wr.alloc (.cells #[.int .i64 (j : Int)] 3)).cell? ((⟨wr.heap.size, 0, none⟩ : Addr).add t) = some u from by simpa using cell_one wr (j : Int) 3 wr.heap.size rfl)
        have hbs := hb.size
        clear ho hb
        go_wp2_with (at_builtin; refine wpList_append_own _ rfl (.tmp 24) (.tmp 26) 26 rfl w2.heap.size 3 inf _ 1 8 Try.underlying26 hi iz0 iz1 iz2 rfl (by decide) _ _ _ rfl o1.out.1 ⟨wr.heap.size, 0, none⟩ 1 1 ([(j : Int)].flatMap icells) rfl rfl c1.out (icells_all_one _) ?c3 ?c4 ?c5 ?_)
        case c3 => unfold maxLen; omega
        case c4 => omega
        case c5 => first | omega | (simp; omega)
        intro v5 w5 hown5 hg5 hn5
        have o5 := Lib.hid (show OwnI w2 w5 v5 (j + 1) (natI (j + 1)) from ⟨by rw [natI_succ, List.flatMap_append]; simpa using hown5, natI_len _⟩)
        have hb5 := hb1.grown hg5 hb1.size (fun k e => (o1.out.1.lt k e).1)
        obtain ⟨g5, d5, rfl, _⟩ := own_someI o5.out (fun e => by first | exact hn5 e | (have := (hn5.1 e).1; cases this))
        clear hown5 hg5 hn5 o1 hb1 c1
        go_wp2
        go_roundw
        case rel => exact ⟨j + 1, _, _, by go_num, by omega, rfl, o5, hb5⟩
        case measure => simp [intOf]; omega
      · have hjn' : n = j := by omega
        subst hjn'
        have hRr := Lib.hid (oR.out.below5 hb)
        have o4 := Lib.hid ho.out
        have hba := hb2.trans (hb.mono (Nat.le_of_lt hGlt))
        have hs2 := hb.size
        clear ho hb oR
        go_wp2_with fail
        go_loopw [5, 7] (fun v5 v7 wx => ∃ (m : Nat) (L O : List Int) (g4 d4 : Nat), v5 = .slice (some ⟨g4, 0, none⟩) m d4 ∧ v7 = .int .i64 ((m : Int) - 1) ∧ m ≤ n ∧ O.length = n - m ∧ Hid (OwnI w2 wx v5 m L) ∧ Hid (OwnI w1 wx (.slice (some ⟨G, 0, none⟩) n n) n (List.replicate m 0 ++ O)) ∧ Hid (∀ x ∈ L, 0 ≤ x ∧ x < n) ∧ Hid (asgF xs m L O = asgV xs) ∧ Below G w1 wx) (fun v5 _ _ => lenV v5)
        case atStart => exact ⟨n, natI n, [], _, _, rfl, rfl, Nat.le_refl _, by simp, o4, hRr, Lib.hid natI_in, HV, hba⟩
        case round =>
          obtain ⟨m, L, O, g4, d4, rfl, rfl, hm, hOl, hL, hO, hin, hA, hb⟩ := hrel
          clear hRr o4 hba
          have hbw := hz1.trans (hb.mono (by rw [← HG.out]; exact hz1.size))
          rcases Nat.eq_zero_or_pos m with hm0 | hm1
          · subst hm0
            have HN := Lib.hid (show asgV xs = some O from hA.out.symm)
            have oF := Lib.hid (show OwnI w wr (.slice (some ⟨G, 0, none⟩) n n) n O from by simpa using hO.out.ext5 (w := w) hz1.size)
            go_wp2
            go_ret2
            exact ⟨_, _, _, by rw [HN.out]; rfl, by rw [HN.out]; exact oF.out, hbw⟩
          · obtain ⟨m, rfl⟩ : ∃ m', m = m' + 1 := ⟨m - 1, by omega⟩
            have hmi : (((m + 1 : Nat) : Int) - 1) = (m : Int) := by omega
            rw [hmi]
            have HOl := Lib.hid (show O.length + 1 = n - m by omega)
            rename World => wo
            have rI := Lib.hid hL.out.rd5
            have hcap := rI.out.cap
            have hmax := rI.out.max
            unfold maxLen at hmax
            have p0 := Lib.hid (OwnT.new wo)
            have qo := Lib.hid (q0.out.below (HG.out ▸ hb))
            have m0 : (0 : Int) ≤ (m : Int) := by omega
            have hgw := hb.size
            go_wp2_with fail
            go_loopw [8, 39] (fun v8 i wy => ∃ j : Nat, i = .int .i64 j ∧ j ≤ m + 1 ∧ Hid (OwnT wo wy v8 j (putL xs (L.take j))) ∧ Below wo.heap.size wo wy) (fun _ i _ => m + 1 - (intOf i).toNat)
            case atStart => exact ⟨0, rfl, Nat.zero_le _, p0, (Below.refl _ _).alloc (Nat.le_refl _) _⟩
            case round =>
              obtain ⟨j, rfl, hj, hp, hby⟩ := hrel
              clear p0
              by_cases hjm : j < m + 1
              · obtain ⟨bi, offi, x, hAi, hx, hbi, ci⟩ := (rI.out.below hby).intAt hjm
                injection hAi with hAi
                injection hAi with hA1 hA2
                subst hA1 hA2
                rw [Nat.zero_add] at ci
                have hr := hin.out x (List.mem_of_getElem? hx)
                obtain ⟨i, rfl⟩ := Int.eq_ofNat_of_zero_le hr.1
                have hin' : i < n := by omega
                obtain ⟨b, off, y, rfl, hy, hby', d0, d1, d2, d3, d4'⟩ := (qo.out.below hby).taskAt hin'
                have HP := Lib.hid (putL_succ hx hy)
                have i0 : (0 : Int) ≤ (i : Int) := by omega
                have i1 : (i : Int) < (n : Int) := by omega
                have jj0 : (0 : Int) ≤ (j : Int) := by omega
                have jj1 : (j : Int) < (m : Int) + 1 := by omega
                have o1 := Lib.hid (hp.out.alloc (.cells #[.int .i64 y.low, .int .i64 y.high, .int .i64 y.due, .int .i64 y.every, .bool y.crit] 40))
                have hb1 := hby.alloc hby.size (.cells #[.int .i64 y.low, .int .i64 y.high, .int .i64 y.due, .int .i64 y.every, .bool y.crit] 40)
                have c1 := Lib.hid (cells_one wr y 40 wr.heap.size rfl)
                have hbs := hby.size
                clear hp hr hx hy hby
                go_wp2_with (at_builtin; refine wpList_append_own _ rfl (.tmp 43) (.tmp 48) 23 rfl wo.heap.size 40 inT _ 5 40 Try.underlying23 hit jz0 jz1 jz2 rfl (by decide) _ _ _ rfl o1.out.1 ⟨wr.heap.size, 0, none⟩ 1 1 y.cells rfl rfl c1.out (cells_oneCell y) ?c3 ?c4 ?c5 ?_)
                case c3 => unfold maxLen; omega
                case c4 => omega
                case c5 => first | omega | (simp; omega)
                intro v' w3 hown3 hg3 _
                have o3 := Lib.hid (show OwnT wo w3 v' (j + 1) (putL xs (L.take (j + 1))) from ⟨by rw [HP.out, List.flatMap_append]; simpa using hown3, by rw [HP.out, List.length_append, o1.out.2]; rfl⟩)
                have hb3 := Lib.hid (below_own hb1 o1.out.1 hg3)
                clear hown3 hg3 o1 hb1 c1 d0 d1 d2 d3 d4' ci
                go_wp2
                go_roundw
                case rel => exact ⟨j + 1, by go_num, by omega, o3, hb3.out⟩
                case measure => simp [intOf]; omega
              · have hjm' : j = m + 1 := by omega
                subst hjm'
                have HP := Lib.hid (show L.take (m + 1) = L from List.take_of_length_le (by rw [rI.out.len]; exact Nat.le_refl _))
                rw [HP.out] at hp
                obtain ⟨Dp, dp, rfl⟩ := hp.out.slice
                have qP := Lib.hid hp.out.rdS
                rename World => w5
                have hL5 := Lib.hid (hL.out.below5 hby)
                have hO5 := Lib.hid (hO.out.below5 hby)
                have hb15 := hb.trans (hby.mono (Nat.le_trans (Nat.le_of_eq HG.out.symm) hb.size))
                have HNO := Lib.hid (fun e : lastFrom (putL xs L) (m + 1) = none => hA.out.symm.trans (asgF_none e))
                have HYES := Lib.hid (fun (a : Nat) (v : Int) (e : lastFrom (putL xs L) (m + 1) = some a) (hv : L[a]? = some v) => (asgF_some e hv).symm.trans hA.out)
                generalize putL xs L = ys at *
                clear rI hA hb hbw hL hO hp hby qo HP
                go_upto_block 6 with fail
                go_cut [11] (fun s11 wx2 => ((s11 = .int .i64 (-1) ∧ Hid (lastFrom ys (m + 1) = none)) ∨ ∃ a : Nat, s11 = .int .i64 a ∧ a < m + 1 ∧ Hid (lastFrom ys (m + 1) = some a)) ∧ Below w5.heap.size w5 wx2)
                case first =>
                  go_wp2_with fail
                  go_loopw [11] (fun v9 wy => ∃ j : Nat, v9 = .int .i64 ((j : Int) - 1) ∧ j ≤ m + 1 ∧ Hid (lastFrom ys j = lastFrom ys (m + 1)) ∧ Below w5.heap.size w5 wy) (fun v9 _ => (intOf v9 + 1).toNat)
                  case atStart => exact ⟨m + 1, by go_num, Nat.le_refl _, Lib.hid rfl, Below.refl _ _⟩
                  case round =>
                    obtain ⟨j, rfl, hj, hno, hby⟩ := hrel
                    rcases Nat.eq_zero_or_pos j with h0 | h1
                    · subst h0
                      go_wp2_with fail
                      go_meet
                      case rel => exact ⟨Or.inl ⟨rfl, Lib.hid hno.out.symm⟩, hby⟩
                    · obtain ⟨j, rfl⟩ : ∃ j', j = j' + 1 := ⟨j - 1, by omega⟩
                      have hji : (((j + 1 : Nat) : Int) - 1) = (j : Int) := by omega
                      rw [hji]
                      have j0 : (0 : Int) ≤ (j : Int) := by omega
                      have HL1 := Lib.hid (fun e => (lastFrom_no (ys := ys) (k := j) e).symm.trans hno.out)
                      have HL2 := Lib.hid (fun e => hno.out.symm.trans (lastFrom_yes (ys := ys) (k := j) e))
                      go_wp2_with fail
                      refine (canBeLast_impl Dp (m + 1) dp ys j _ (qP.out.below hby)).mono ?_
                      cases hlb : lastB ys (j : Int)
                      · rintro e w7 ⟨rfl, hb7⟩
                        have hb25 := hby.trans (hb7.mono hby.size)
                        have hR := Lib.hid (HL1.out hlb)
                        clear hlb HL1 HL2 hno
                        go_wp2
                        go_roundw
                        case rel => first | exact ⟨j, by go_num, by omega, hR, hb25⟩ | ((repeat apply Exists.intro); exact ⟨⟨j, by go_num, by omega, hR, hb25⟩, rfl⟩)
                        case measure => simp [intOf]
                      · rintro e w7 ⟨rfl, hb7⟩
                        have hb25 := hby.trans (hb7.mono hby.size)
                        have hR := Lib.hid (HL2.out hlb)
                        clear hlb HL1 HL2 hno
                        go_wp2_with fail
                        go_meet
                        case rel => exact ⟨Or.inr ⟨j, rfl, by omega, hR⟩, hb25⟩
                case rest =>
                  obtain ⟨hc, hb3⟩ := hcut
                  have hb13 := hb15.trans (hb3.mono (Nat.le_trans (Nat.le_of_eq HG.out.symm) hb15.size))
                  have hz3 := hz1.trans (hb13.mono (by rw [← HG.out]; exact hz1.size))
                  rcases hc with ⟨rfl, hno⟩ | ⟨a, rfl, ham, hya⟩
                  · have HN := Lib.hid (HNO.out hno.out)
                    clear HNO HYES
                    go_wp2
                    go_ret2
                    exact ⟨_, _, _, by rw [HN.out]; rfl, by rw [HN.out]; exact ⟨World.ownsRow_nil _ _ _ _, rfl⟩, hz3⟩
                  · have hLC := Lib.hid (hL5.out.below5 hb3)
                    have hOC := Lib.hid (hO5.out.below5 hb3)
                    obtain ⟨b', off', v, hA', hval, hlt, c0⟩ := hLC.out.rd5.intAt ham
                    injection hA' with hA'
                    injection hA' with hA1 hA2
                    subst hA1 hA2
                    rw [Nat.zero_add] at c0
                    have HR := Lib.hid (HYES.out a v hya.out hval)
                    clear HNO HYES
                    obtain ⟨u0, cx⟩ := hOC.out.at_ (k := m) (by omega)
                    have fx := hOC.out.1.frozenAt m
                    have hg4 := (hLC.out.1.lt _ rfl).1
                    have HGg := Lib.hid (show G < g4 from Nat.lt_of_lt_of_le HGl.out hg4)
                    have a0 : (0 : Int) ≤ (a : Int) := by omega
                    have a00 : decide ((a : Int) < 0) = false := by simp
                    have a1 : (a : Int) < (m : Int) + 1 := by omega
                    have m1 : (m : Int) < (n : Int) := by omega
                    have hS := hOC.out.set_ m v
                    rw [rep_set] at hS
                    have hgS := grown_set5 wc G m (.int .i64 v)
                    have hLS := Lib.hid (hLC.out.keep5 hgS (fun e => by injection e with e; omega))
                    have hbS := hb13.setCell (Nat.le_refl _) (p := ⟨G, m, none⟩) (.int .i64 v)
                    have HS := Lib.hid hS
                    have hinF := Lib.hid (show ∀ x ∈ L.eraseIdx a, 0 ≤ x ∧ x < n from fun x hx => hin.out x (List.mem_of_mem_eraseIdx hx))
                    have i5 : IntKind.i64.wrap ((a : Int) + 1) = (a : Int) + 1 := IntWalk.i64_in _ (by omega)
                    clear hval hlt hgS hS hOC hLC
                    go_wp2_with fail
                    refine (delete_ints w2 _ g4 (m + 1) d4 a L hLS.out ham (by omega)).mono ?_
                    rintro e w8 ⟨rfl, o8, hg8⟩
                    have oF := Lib.hid (HS.out.keep5 hg8 (fun e => by injection e with e; exact absurd e (Nat.ne_of_lt HGg.out)))
                    have oL := Lib.hid o8
                    have hb8 := hbS.grown hg8 (Nat.le_trans (Nat.le_of_eq HG.out.symm) hbS.size) (fun k e => by injection e with e; exact e ▸ Nat.le_of_lt HGg.out)
                    clear o8 hg8 hLS HS cx fx c0 hbS
                    go_wp2
                    go_roundw
                    case rel => first | exact ⟨m, _, _, _, _, rfl, by go_num, by omega, by rw [List.length_cons]; exact HOl.out, oL, oF, hinF, HR, hb8⟩ | ((repeat apply Exists.intro); exact ⟨⟨m, _, _, _, _, rfl, by go_num, by omega, by rw [List.length_cons]; exact HOl.out, oL, oF, hinF, HR, hb8⟩, rfl⟩)
                    case measure => first | exact Nat.lt_succ_self _ | simp [lenV_slice]

end Go.Proofs.Ytcgjifklapaeeaa
