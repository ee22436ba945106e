/- The contracts of VirtualDue, of the program and of the reference. No condition. -/
import Derived.Test.YtdafioafbgkilaaL5V
import Derived.Test.YtdafioafbgkilaaPlacedS
namespace Go.Proofs.Ytdafioafbgkilaa
open Go.RowKit
set_option linter.unusedVariables false

def elT (xs : List T) (k : Nat) : T := (xs[k]?).getD default
theorem elT_get {xs : List T} {k : Nat} (h : k < xs.length) : xs[k]? = some (elT xs k) := by simp [elT, h]
theorem elT_of {xs : List T} {k : Nat} {x : T} (h : xs[k]? = some x) : elT xs k = x := by simp [elT, h]
def inB (xs : List T) (i : Int) : Bool := decide (0 ≤ i) && decide (i < xs.length)
def vdB (xs : List T) (i : Int) : Bool := factB xs && inB xs i
def vd1 (xs : List T) (x : T) : S := if x.crit = true then red ((factV xs).num * x.due) (factV xs).den else ⟨x.due, 1⟩
def vdV (xs : List T) (i : Int) : S := if vdB xs i = true then vd1 xs (elT xs i.toNat) else ⟨0, 0⟩
theorem vd_fact {xs : List T} {i : Int} (h : factB xs = false) : vdB xs i = false ∧ vdV xs i = ⟨0, 0⟩ := by simp [vdV, vdB, h]
theorem vd_out {xs : List T} {i : Int} (h : inB xs i = false) : vdB xs i = false ∧ vdV xs i = ⟨0, 0⟩ := by simp [vdV, vdB, h]
theorem vd_in {xs : List T} {k : Nat} {x : T} (h : factB xs = true) (hx : xs[k]? = some x) : vdB xs (k : Int) = true ∧ vdV xs (k : Int) = vd1 xs x := by
  have hk := (List.getElem?_eq_some_iff.1 hx).1
  have hi : inB xs (k : Int) = true := by simp [inB]; omega
  have hb : vdB xs (k : Int) = true := by simp [vdB, h, hi]
  refine ⟨hb, ?_⟩
  simp only [vdV, hb, if_true, Int.toNat_natCast, elT_of hx]
theorem inB_cases {xs : List T} {n : Nat} {i : Int} (hl : xs.length = n) : (inB xs i = false ∧ (i < 0 ∨ (0 ≤ i ∧ (n : Int) ≤ i))) ∨ ∃ k : Nat, i = k ∧ k < n := by
  by_cases h0 : 0 ≤ i
  · by_cases h1 : i < n
    · exact Or.inr ⟨i.toNat, by omega, by omega⟩
    · exact Or.inl ⟨by simp [inB]; intro; omega, Or.inr ⟨h0, by omega⟩⟩
  · exact Or.inl ⟨by simp [inB]; intro; omega, Or.inl (by omega)⟩
theorem factV_bd {xs : List T} (h : factB xs = true) : 0 ≤ (factV xs).num ∧ (factV xs).num ≤ 16000000 ∧ 1 ≤ (factV xs).den ∧ (factV xs).den ≤ 3200000 := by
  cases hp : plainB xs
  · obtain ⟨h1, h2, h3⟩ := fact_lt h hp
    obtain ⟨u1, u2, u3, u4, u5, u6⟩ := fact_bd (f := T.low) (g := T.low) (imp_sv (fact_imp h)) nd_low nd_low h2
    have e : factV xs = red ((shr true T.low xs).num * (shr false T.low xs).den) ((shr true T.low xs).den * ((shr false T.low xs).den - (shr false T.low xs).num)) := by rw [h3, u6]; rfl
    rw [e]
    have := red_num_le u2 u4
    have := red_den_le u2 u4
    exact ⟨red_num0 u2 u4, by omega, red_den1 u2 u4, by omega⟩
  · rw [(factB_2 (plain_imp hp) hp).2]
    decide
theorem due_bd {x : T} (h : tvB x = true) : 1 ≤ x.due ∧ x.due ≤ 20 := by
  have := (tvB_iff x).1 h
  omega
theorem prod_bd {xs : List T} {x : T} (h : factB xs = true) (hx : tvB x = true) : 0 ≤ (factV xs).num * x.due ∧ (factV xs).num * x.due ≤ 320000000 := by
  obtain ⟨a, b, _, _⟩ := factV_bd h
  obtain ⟨c, d⟩ := due_bd hx
  refine ⟨Int.mul_nonneg a (by omega), ?_⟩
  exact Int.mul_le_mul b d (by omega) (by omega)
theorem sv_el {xs : List T} {k : Nat} {x : T} (h : factB xs = true) (hx : xs[k]? = some x) : tvB x = true := (sv_all (imp_sv (fact_imp h))).2 x (List.mem_of_getElem? hx)

set_option maxRecDepth 100000 in
set_option maxHeartbeats 6400000 in
theorem virtualDue_impl (A : Option Addr) (n c : Nat) (xs : List T) (i : Int) (w : World) (h : RdT w A n c xs) :
    Calls Try.prog 22 #[.slice A n c, .int .i64 i] w fun e w' => e = .returned (.tuple #[.agg #[.int .i64 (vdV xs i).num, .int .i64 (vdV xs i).den], .bool (vdB xs i)]) ∧ Below w.heap.size w w' := by
  have hz0 : Below w.heap.size w (w.alloc (.cells #[.int .i64 0, .int .i64 0] 28)) := (Below.refl _ _).alloc (Nat.le_refl _) _
  have q0 := Lib.hid (h.alloc (.cells #[.int .i64 0, .int .i64 0] 28))
  have rS := Lib.hid (Blk.new w 28 #[.int .i64 0, .int .i64 0])
  have hl := Lib.hid h.len
  clear h
  cases hf : factB xs
  · have Hf := Lib.hid hf
    have HV := Lib.hid (vd_fact (i := i) hf)
    clear hf
    go_enter Try.func22, Try.ntmps22
    go_wp2_with fail
    refine (factorOf_impl A n c xs _ q0.out).mono ?_
    rw [Hf.out]
    rintro e w1 ⟨rfl, hb1⟩
    have hz1 := hz0.trans (hb1.mono hz0.size)
    replace rS := Lib.hid (rS.out.below hb1)
    clear hb1
    generalize factV xs = v at *
    replace rS := Lib.hid (rS.out.alloc (.cells #[.int .i64 v.num, .int .i64 v.den] 28))
    have hz1a := hz1.alloc hz1.size (.cells #[.int .i64 v.num, .int .i64 v.den] 28)
    have r0 := rS.out.cell (i := 0) rfl
    have r1 := rS.out.cell (i := 1) rfl
    have f0 := rS.out.frozen 0
    have f1 := rS.out.frozen 1
    go_wp2
    exact bodyPost_ret (v := .tuple #[.agg #[.int .i64 0, .int .i64 0], .bool false]) (by simp [results, Try.results22, go_sem, r0, r1]) rfl ⟨by rw [HV.out.1, HV.out.2], (hz1a.setCell (Nat.le_refl _) _).setCell (Nat.le_refl _) _⟩
  · have Hf := Lib.hid hf
    rcases inB_cases (i := i) hl.out with ⟨hb, hout⟩ | ⟨k, rfl, hk⟩
    · have HV := Lib.hid (vd_out hb)
      clear hf hb
      rcases hout with ho | ⟨ho, ho2⟩
      all_goals
        go_enter Try.func22, Try.ntmps22
        go_wp2_with fail
        refine (factorOf_impl A n c xs _ q0.out).mono ?_
        rw [Hf.out]
        rintro e w1 ⟨rfl, hb1⟩
        have hz1 := hz0.trans (hb1.mono hz0.size)
        replace rS := Lib.hid (rS.out.below hb1)
        clear hb1
        generalize factV xs = v at *
        replace rS := Lib.hid (rS.out.alloc (.cells #[.int .i64 v.num, .int .i64 v.den] 28))
        have hz1a := hz1.alloc hz1.size (.cells #[.int .i64 v.num, .int .i64 v.den] 28)
        have r0 := rS.out.cell (i := 0) rfl
        have r1 := rS.out.cell (i := 1) rfl
        have f0 := rS.out.frozen 0
        have f1 := rS.out.frozen 1
        go_wp2
        exact bodyPost_ret (v := .tuple #[.agg #[.int .i64 0, .int .i64 0], .bool false]) (by simp [results, Try.results22, go_sem, r0, r1]) rfl ⟨by rw [HV.out.1, HV.out.2], (hz1a.setCell (Nat.le_refl _) _).setCell (Nat.le_refl _) _⟩
    · have hxl := elT_get (xs := xs) (k := k) (by rw [hl.out]; exact hk)
      generalize elT xs k = x at *
      have hxv := sv_el hf hxl
      have HV := Lib.hid (vd_in hf hxl)
      have Hx := Lib.hid hxl
      obtain ⟨x1, x2, x3, x4⟩ := factV_bd hf
      obtain ⟨d1, d2⟩ := due_bd hxv
      have i0 : (0 : Int) ≤ (k : Int) := by omega
      have i1 : (k : Int) < (n : Int) := by omega
      have hT := Lib.hid (fun w => times_any (factV xs) ⟨x.due, 1⟩ w ⟨x1, by omega, x3, by omega⟩ (show Sm ⟨x.due, 1⟩ from ⟨by show 0 ≤ x.due; omega, by show x.due ≤ 1000000000; omega, by show (1 : Int) ≤ 1; omega, by show (1 : Int) ≤ 1000000000; omega⟩))
      have hv1 := Lib.hid (show vd1 xs x = if x.crit = true then timesV (factV xs) ⟨x.due, 1⟩ else ⟨x.due, 1⟩ by unfold vd1 timesV; rw [Int.mul_one])
      clear hf hxl hxv
      cases hc : x.crit
      · have HW := Lib.hid (HV.out.2.trans (by rw [hv1.out, hc, if_neg (by decide)]))
        have Hc := Lib.hid hc
        clear hc hT hv1
        go_enter Try.func22, Try.ntmps22
        go_wp2_with fail
        refine (factorOf_impl A n c xs _ q0.out).mono ?_
        rw [Hf.out]
        rintro e w1 ⟨rfl, hb1⟩
        have hz1 := hz0.trans (hb1.mono hz0.size)
        replace q0 := Lib.hid (q0.out.below hb1)
        replace rS := Lib.hid (rS.out.below hb1)
        clear hb1
        generalize factV xs = v at *
        replace rS := Lib.hid (rS.out.alloc (.cells #[.int .i64 v.num, .int .i64 v.den] 28))
        replace q0 := Lib.hid (q0.out.alloc (.cells #[.int .i64 v.num, .int .i64 v.den] 28))
        have hz1a := hz1.alloc hz1.size (.cells #[.int .i64 v.num, .int .i64 v.den] 28)
        obtain ⟨b, off, x', hA, hx', hb, c0, c1, c2, c3, c4⟩ := q0.out.taskAt hk
        rw [Hx.out] at hx'
        injection hx' with hx'
        subst hA
        subst hx'
        rw [Hc.out] at c4
        have hk0 : decide ((k : Int) < 0) = false := by simp
        have hk1 : decide (n ≤ k) = false := by simp; omega
        have hb' : b < w1.heap.size + 1 := by simpa using hb
        have r0 := rS.out.cell (i := 0) rfl
        have r1 := rS.out.cell (i := 1) rfl
        have f0 := rS.out.frozen 0
        have f1 := rS.out.frozen 1
        have rlt := rS.out.lt
        have rlt2 : w.heap.size < w1.heap.size + 1 := by simpa using rlt
        have hz1b := hz1a.alloc hz1a.size (.cells #[.int .i64 x.due, .int .i64 1] 28)
        clear c0 c1 c3
        go_wp2
        exact bodyPost_ret (v := .tuple #[.agg #[.int .i64 x.due, .int .i64 1], .bool true]) (by simp [results, Try.results22, go_sem, r0, r1, rlt2]) rfl ⟨by rw [HV.out.1, HW.out], ((hz1a.setCell (Nat.le_refl _) _).setCell (Nat.le_refl _) _).alloc (by simp; omega) _⟩
      · have HW := Lib.hid (HV.out.2.trans (by rw [hv1.out, hc, if_pos rfl]))
        have Hc := Lib.hid hc
        clear hc hv1
        go_enter Try.func22, Try.ntmps22
        go_wp2_with fail
        refine (factorOf_impl A n c xs _ q0.out).mono ?_
        rw [Hf.out]
        rintro e w1 ⟨rfl, hb1⟩
        have hz1 := hz0.trans (hb1.mono hz0.size)
        replace q0 := Lib.hid (q0.out.below hb1)
        replace rS := Lib.hid (rS.out.below hb1)
        clear hb1
        have rX := Lib.hid (Blk.new w1 28 #[.int .i64 (factV xs).num, .int .i64 (factV xs).den])
        replace rS := Lib.hid (rS.out.alloc (.cells #[.int .i64 (factV xs).num, .int .i64 (factV xs).den] 28))
        replace q0 := Lib.hid (q0.out.alloc (.cells #[.int .i64 (factV xs).num, .int .i64 (factV xs).den] 28))
        have hz1a := hz1.alloc hz1.size (.cells #[.int .i64 (factV xs).num, .int .i64 (factV xs).den] 28)
        obtain ⟨b, off, x', hA, hx', hb, c0, c1, c2, c3, c4⟩ := q0.out.taskAt hk
        rw [Hx.out] at hx'
        injection hx' with hx'
        subst hA
        subst hx'
        rw [Hc.out] at c4
        have hk0 : decide ((k : Int) < 0) = false := by simp
        have hk1 : decide (n ≤ k) = false := by simp; omega
        have hb' : b < w1.heap.size + 1 := by simpa using hb
        have y0 := rX.out.cell (i := 0) (v := .int .i64 (factV xs).num) rfl
        have y1 := rX.out.cell (i := 1) (v := .int .i64 (factV xs).den) rfl
        have ylt := rX.out.lt
        have hz1b := hz1a.alloc hz1a.size (.cells #[.int .i64 x.due, .int .i64 1] 28)
        replace rS := Lib.hid (rS.out.alloc (.cells #[.int .i64 x.due, .int .i64 1] 28))
        have rD := Lib.hid (Blk.new (w1.alloc (.cells #[.int .i64 (factV xs).num, .int .i64 (factV xs).den] 28)) 28 #[.int .i64 x.due, .int .i64 1])
        have hsz : (w1.alloc (.cells #[.int .i64 (factV xs).num, .int .i64 (factV xs).den] 28)).heap.size = w1.heap.size + 1 := by simp
        rw [hsz] at rD
        clear c0 c1 c3 hsz
        go_wp2_with fail
        refine (hT.out _).mono ?_
        rintro e w2 ⟨rfl, hb2⟩
        have hz2 := hz1b.trans (hb2.mono hz1b.size)
        replace rS := Lib.hid (rS.out.below hb2)
        replace rD := Lib.hid (rD.out.below hb2)
        clear hb2
        generalize timesV (factV xs) ⟨x.due, 1⟩ = v at *
        clear y0 y1 ylt c2 c4 hb
        have r0 := rS.out.cell (i := 0) rfl
        have r1 := rS.out.cell (i := 1) rfl
        have f0 := rS.out.frozen 0
        have f1 := rS.out.frozen 1
        have rlt := rS.out.lt
        have s0 := rD.out.cell (i := 0) rfl
        have s1 := rD.out.cell (i := 1) rfl
        have g0 := rD.out.frozen 0
        have g1 := rD.out.frozen 1
        have hw1 := hz1.size
        have hne : w.heap.size ≠ w1.heap.size + 1 := by omega
        have hne2 : ¬ w1.heap.size + 1 = w.heap.size := by omega
        go_wp2
        exact bodyPost_ret (v := .tuple #[.agg #[.int .i64 v.num, .int .i64 v.den], .bool true]) (by simp [results, Try.results22, go_sem, r0, r1]) rfl ⟨by rw [HV.out.1, HW.out], (((hz2.setCell (Nat.le_succ_of_le hw1) _).setCell (Nat.le_succ_of_le hw1) _).setCell (Nat.le_refl _) _).setCell (Nat.le_refl _) _⟩

set_option maxRecDepth 100000 in
set_option maxHeartbeats 6400000 in
theorem virtualDue_spec (A : Option Addr) (n c : Nat) (xs : List T) (i : Int) (w : World) (h : RdT w A n c xs) :
    Calls Try.prog 20 #[.slice A n c, .int .i64 i] w fun e w' => e = .returned (.tuple #[.agg #[.int .i64 (vdV xs i).num, .int .i64 (vdV xs i).den], .bool (vdB xs i)]) ∧ Below w.heap.size w w' := by
  have hz0 : Below w.heap.size w (w.alloc (.cells #[.int .i64 0, .int .i64 0] 28)) := (Below.refl _ _).alloc (Nat.le_refl _) _
  have q0 := Lib.hid (h.alloc (.cells #[.int .i64 0, .int .i64 0] 28))
  have rS := Lib.hid (Blk.new w 28 #[.int .i64 0, .int .i64 0])
  have hl := Lib.hid h.len
  clear h
  cases hf : factB xs
  · have Hf := Lib.hid hf
    have HV := Lib.hid (vd_fact (i := i) hf)
    clear hf
    go_enter Try.func20, Try.ntmps20
    go_wp2_with fail
    refine (factorOf_spec A n c xs _ q0.out).mono ?_
    rw [Hf.out]
    rintro e w1 ⟨rfl, hb1⟩
    have hz1 := hz0.trans (hb1.mono hz0.size)
    replace rS := Lib.hid (rS.out.below hb1)
    clear hb1
    generalize factV xs = v at *
    replace rS := Lib.hid (rS.out.alloc (.cells #[.int .i64 v.num, .int .i64 v.den] 28))
    have hz1a := hz1.alloc hz1.size (.cells #[.int .i64 v.num, .int .i64 v.den] 28)
    have r0 := rS.out.cell (i := 0) rfl
    have r1 := rS.out.cell (i := 1) rfl
    have f0 := rS.out.frozen 0
    have f1 := rS.out.frozen 1
    go_wp2
    exact bodyPost_ret (v := .tuple #[.agg #[.int .i64 0, .int .i64 0], .bool false]) (by simp [results, Try.results20, go_sem, r0, r1]) rfl ⟨by rw [HV.out.1, HV.out.2], (hz1a.setCell (Nat.le_refl _) _).setCell (Nat.le_refl _) _⟩
  · have Hf := Lib.hid hf
    have hsv := imp_sv (fact_imp hf)
    rcases inB_cases (i := i) hl.out with ⟨hb, hout⟩ | ⟨k, rfl, hk⟩
    · have HV := Lib.hid (vd_out hb)
      have HPl := Lib.hid (show plB xs i = false from plB_no xs i (by rw [hl.out]; omega))
      clear hf hb hsv hout
      go_enter Try.func20, Try.ntmps20
      go_wp2_with fail
      refine (factorOf_spec A n c xs _ q0.out).mono ?_
      rw [Hf.out]
      rintro e w1 ⟨rfl, hb1⟩
      have hz1 := hz0.trans (hb1.mono hz0.size)
      replace q0 := Lib.hid (q0.out.below hb1)
      replace rS := Lib.hid (rS.out.below hb1)
      clear hb1
      generalize factV xs = v at *
      replace rS := Lib.hid (rS.out.alloc (.cells #[.int .i64 v.num, .int .i64 v.den] 28))
      replace q0 := Lib.hid (q0.out.alloc (.cells #[.int .i64 v.num, .int .i64 v.den] 28))
      have hz1a := hz1.alloc hz1.size (.cells #[.int .i64 v.num, .int .i64 v.den] 28)
      go_wp2_with fail
      refine (placed_spec A n c xs i _ q0.out).mono ?_
      rw [HPl.out]
      rintro e w2 ⟨rfl, hb2⟩
      have hz2 := hz1a.trans (hb2.mono hz1a.size)
      replace rS := Lib.hid (rS.out.below hb2)
      clear hb2
      have r0 := rS.out.cell (i := 0) rfl
      have r1 := rS.out.cell (i := 1) rfl
      have f0 := rS.out.frozen 0
      have f1 := rS.out.frozen 1
      go_wp2
      exact bodyPost_ret (v := .tuple #[.agg #[.int .i64 0, .int .i64 0], .bool false]) (by simp [results, Try.results20, go_sem, r0, r1]) rfl ⟨by rw [HV.out.1, HV.out.2], (hz2.setCell (Nat.le_refl _) _).setCell (Nat.le_refl _) _⟩
    · have hxl := elT_get (xs := xs) (k := k) (by rw [hl.out]; exact hk)
      generalize elT xs k = x at *
      have hxv := sv_el hf hxl
      have HV := Lib.hid (vd_in hf hxl)
      have Hx := Lib.hid hxl
      have HPl := Lib.hid (show plB xs (k : Int) = true from (plB_iff _ _).2 ⟨hsv, by omega, by rw [hl.out]; omega⟩)
      obtain ⟨x1, x2, x3, x4⟩ := factV_bd hf
      obtain ⟨d1, d2⟩ := due_bd hxv
      obtain ⟨p1, p2⟩ := prod_bd hf hxv
      have i0 : (0 : Int) ≤ (k : Int) := by omega
      have i1 : (k : Int) < (n : Int) := by omega
      have hM := Lib.hid (fun w => makeShare_spec ((factV xs).num * x.due) (factV xs).den w p1 (by omega) x3 (by omega))
      clear hf hxl hxv hsv
      cases hc : x.crit
      · have HW := Lib.hid (HV.out.2.trans (show vd1 xs x = ⟨x.due, 1⟩ by simp [vd1, hc]))
        have Hc := Lib.hid hc
        clear hc hM
        go_enter Try.func20, Try.ntmps20
        go_wp2_with fail
        refine (factorOf_spec A n c xs _ q0.out).mono ?_
        rw [Hf.out]
        rintro e w1 ⟨rfl, hb1⟩
        have hz1 := hz0.trans (hb1.mono hz0.size)
        replace q0 := Lib.hid (q0.out.below hb1)
        replace rS := Lib.hid (rS.out.below hb1)
        clear hb1
        generalize factV xs = v at *
        replace rS := Lib.hid (rS.out.alloc (.cells #[.int .i64 v.num, .int .i64 v.den] 28))
        replace q0 := Lib.hid (q0.out.alloc (.cells #[.int .i64 v.num, .int .i64 v.den] 28))
        have hz1a := hz1.alloc hz1.size (.cells #[.int .i64 v.num, .int .i64 v.den] 28)
        go_wp2_with fail
        refine (placed_spec A n c xs k _ q0.out).mono ?_
        rw [HPl.out]
        rintro e w2 ⟨rfl, hb2⟩
        have hz2 := hz1a.trans (hb2.mono hz1a.size)
        replace q0 := Lib.hid (q0.out.below hb2)
        replace rS := Lib.hid (rS.out.below hb2)
        clear hb2
        obtain ⟨b, off, x', hA, hx', hb, c0, c1, c2, c3, c4⟩ := q0.out.taskAt hk
        rw [Hx.out] at hx'
        injection hx' with hx'
        subst hA
        subst hx'
        rw [Hc.out] at c4
        have r0 := rS.out.cell (i := 0) rfl
        have r1 := rS.out.cell (i := 1) rfl
        have f0 := rS.out.frozen 0
        have f1 := rS.out.frozen 1
        clear c0 c1 c3
        go_wp2
        exact bodyPost_ret (v := .tuple #[.agg #[.int .i64 x.due, .int .i64 1], .bool true]) (by simp [results, Try.results20, go_sem, r0, r1]) rfl ⟨by rw [HV.out.1, HW.out], (hz2.setCell (Nat.le_refl _) _).setCell (Nat.le_refl _) _⟩
      · have HW := Lib.hid (HV.out.2.trans (show vd1 xs x = red ((factV xs).num * x.due) (factV xs).den by simp [vd1, hc]))
        have Hc := Lib.hid hc
        clear hc
        go_enter Try.func20, Try.ntmps20
        go_wp2_with fail
        refine (factorOf_spec A n c xs _ q0.out).mono ?_
        rw [Hf.out]
        rintro e w1 ⟨rfl, hb1⟩
        have hz1 := hz0.trans (hb1.mono hz0.size)
        replace q0 := Lib.hid (q0.out.below hb1)
        replace rS := Lib.hid (rS.out.below hb1)
        clear hb1
        have rX := Lib.hid (Blk.new w1 28 #[.int .i64 (factV xs).num, .int .i64 (factV xs).den])
        replace rS := Lib.hid (rS.out.alloc (.cells #[.int .i64 (factV xs).num, .int .i64 (factV xs).den] 28))
        replace q0 := Lib.hid (q0.out.alloc (.cells #[.int .i64 (factV xs).num, .int .i64 (factV xs).den] 28))
        have hz1a := hz1.alloc hz1.size (.cells #[.int .i64 (factV xs).num, .int .i64 (factV xs).den] 28)
        go_wp2_with fail
        refine (placed_spec A n c xs k _ q0.out).mono ?_
        rw [HPl.out]
        rintro e w2 ⟨rfl, hb2⟩
        have hz2 := hz1a.trans (hb2.mono hz1a.size)
        replace q0 := Lib.hid (q0.out.below hb2)
        replace rS := Lib.hid (rS.out.below hb2)
        replace rX := Lib.hid (rX.out.below hb2)
        clear hb2
        obtain ⟨b, off, x', hA, hx', hb, c0, c1, c2, c3, c4⟩ := q0.out.taskAt hk
        rw [Hx.out] at hx'
        injection hx' with hx'
        subst hA
        subst hx'
        rw [Hc.out] at c4
        have y0 := rX.out.cell (i := 0) (v := .int .i64 (factV xs).num) rfl
        have y1 := rX.out.cell (i := 1) (v := .int .i64 (factV xs).den) rfl
        have ylt2 := rX.out.lt
        have r0 := rS.out.cell (i := 0) rfl
        have r1 := rS.out.cell (i := 1) rfl
        have f0 := rS.out.frozen 0
        have f1 := rS.out.frozen 1
        have rlt := rS.out.lt
        generalize red ((factV xs).num * x.due) (factV xs).den = u at *
        have k1 : IntKind.i64.wrap ((factV xs).num * x.due) = (factV xs).num * x.due := IntWalk.i64_in _ (by omega)
        generalize hP : (factV xs).num * x.due = P at *
        replace hP := Lib.hid hP
        clear c0 c1 c3
        go_wp2_with fail
        go_region_with (go_at_call 50; (try simp only [hP.out, k1]); refine (hM.out _).mono ?_; rintro e w3 ⟨rfl, hb3⟩; have d0 := (hb3.cell (p := ⟨w.heap.size, 0, none⟩) rlt).trans r0; have d1 := (hb3.cell (p := ⟨w.heap.size, 1, none⟩) rlt).trans r1; have e0 := (hb3.frozen (p := ⟨w.heap.size, 0, none⟩) rlt).trans f0; have e1 := (hb3.frozen (p := ⟨w.heap.size, 1, none⟩) rlt).trans f1)
        all_goals
          go_wp2
          have hz3 : Below w.heap.size w w3 := hz2.trans (Below.mono ⟨hb3.os, hb3.tape, hb3.output, hb3.size, hb3.block⟩ hz2.size)
          exact bodyPost_ret (v := .tuple #[.agg #[.int .i64 u.num, .int .i64 u.den], .bool true]) (by simp [results, Try.results20, go_sem, d0, d1]) rfl ⟨by rw [HV.out.1, HW.out], (hz3.setCell (Nat.le_refl _) _).setCell (Nat.le_refl _) _⟩

end Go.Proofs.Ytdafioafbgkilaa
