/- The contract of VirtualDue, of the program. No condition. -/
import Derived.Test.YtcdmegiffbhbeaaL5I
namespace Go.Proofs.Ytcdmegiffbhbeaa
open Go.RowKit
set_option linter.unusedVariables false

def vdB (xs : List T) (i : Int) : Bool := factB xs && (decide (0 ≤ i) && decide (i < xs.length))
def vdV (xs : List T) (i : Int) : S := if vdB xs i = true then (match xs[i.toNat]? with | some t => (if t.crit = true then red ((factV xs).num * t.due) (factV xs).den else ⟨t.due, 1⟩) | none => ⟨0, 0⟩) else ⟨0, 0⟩
theorem vdB_iff (xs : List T) (i : Int) : vdB xs i = true ↔ factB xs = true ∧ 0 ≤ i ∧ i < xs.length := by simp [vdB]
theorem vdB_no {xs : List T} {i : Int} (h : ¬ (factB xs = true ∧ 0 ≤ i ∧ i < xs.length)) : vdB xs i = false ∧ vdV xs i = ⟨0, 0⟩ := by
  have : vdB xs i = false := by rw [Bool.eq_false_iff]; intro h'; exact h ((vdB_iff xs i).1 h')
  exact ⟨this, by simp [vdV, this]⟩
theorem vdB_yes {xs : List T} {k : Nat} {t : T} (h : factB xs = true) (hx : xs[k]? = some t) : vdB xs (k : Int) = true ∧ (t.crit = true → vdV xs (k : Int) = red ((factV xs).num * t.due) (factV xs).den) ∧ (t.crit = false → vdV xs (k : Int) = ⟨t.due, 1⟩) := by
  have hk : k < xs.length := (List.getElem?_eq_some_iff.1 hx).1
  have hb : vdB xs (k : Int) = true := (vdB_iff _ _).2 ⟨h, by omega, by omega⟩
  refine ⟨hb, fun hc => ?_, fun hc => ?_⟩
  · simp only [vdV, hb, if_true, Int.toNat_natCast, hx, hc]
  · simp [vdV, hb, hx, hc]
theorem vd_times {xs : List T} (h : factB xs = true) {t : T} : timesV (factV xs) ⟨t.due, 1⟩ = red ((factV xs).num * t.due) (factV xs).den := by
  unfold timesV
  simp only [Int.mul_one]

set_option maxRecDepth 100000 in
set_option maxHeartbeats 6400000 in
theorem virtualDue_impl (A : Option Addr) (n c : Nat) (xs : List T) (i : Int) (w : World) (h : RdT w A n c xs) :
    Calls Try.prog 22 #[.slice A n c, .int .i64 i] w fun e w' => e = .returned (.tuple #[.agg #[.int .i64 (vdV xs i).num, .int .i64 (vdV xs i).den], .bool (vdB xs i)]) ∧ Below w.heap.size w w' := by
  have hz0 : Below w.heap.size w (w.alloc (.cells #[.int .i64 0, .int .i64 0] 27)) := (Below.refl _ _).alloc (Nat.le_refl _) _
  have q0 := Lib.hid (h.alloc (.cells #[.int .i64 0, .int .i64 0] 27))
  have hl := Lib.hid h.len
  have hmx : n ≤ maxLen := Nat.le_trans h.cap h.max
  unfold maxLen at hmx
  have rS := Lib.hid (Blk.new w 27 #[.int .i64 0, .int .i64 0])
  clear h
  cases hf : factB xs
  · have Hf := Lib.hid hf
    have HV := Lib.hid (vdB_no (i := i) (fun hh => by rw [hf] at hh; cases hh.1))
    clear hf
    go_enter Try.func22, Try.ntmps22
    go_wp2_with fail
    refine (factorOf_impl A n c xs _ q0.out).mono ?_
    rw [Hf.out]
    rintro e w1 ⟨rfl, hb1⟩
    have hz1 := hz0.trans (hb1.mono hz0.size)
    replace rS := Lib.hid (rS.out.below hb1)
    clear hb1
    replace rS := Lib.hid (rS.out.alloc (.cells #[.int .i64 (factV xs).num, .int .i64 (factV xs).den] 27))
    have hz1a := hz1.alloc hz1.size (.cells #[.int .i64 (factV xs).num, .int .i64 (factV xs).den] 27)
    have r0 := rS.out.cell (i := 0) rfl
    have r1 := rS.out.cell (i := 1) rfl
    have f0 := rS.out.frozen 0
    have f1 := rS.out.frozen 1
    go_wp2
    exact bodyPost_ret (v := .tuple #[.agg #[.int .i64 0, .int .i64 0], .bool false]) (by simp [results, Try.results22, go_sem, r0, r1]) rfl ⟨by rw [HV.out.1, HV.out.2], (hz1a.setCell (Nat.le_refl _) _).setCell (Nat.le_refl _) _⟩
  · have Hf := Lib.hid hf
    by_cases hr : 0 ≤ i ∧ i < n
    · obtain ⟨hi0, hi1⟩ := hr
      obtain ⟨k, rfl⟩ := Int.eq_ofNat_of_zero_le hi0
      have hkn : k < n := by omega
      obtain ⟨b, off, x, hA, hx, hb, c0, c1, c2, c3, c4⟩ := q0.out.taskAt hkn
      have HV := Lib.hid (vdB_yes hf hx)
      obtain ⟨sf, sr⟩ := factV_sm hf
      have hxt := (tvB_iff x).1 ((sv_all (imp_sv (fact_imp hf))).2 x (List.mem_of_getElem? hx))
      have sd : Sm ⟨x.due, 1⟩ := ⟨by dsimp only; omega, by dsimp only; omega, by dsimp only; omega, by dsimp only; omega⟩
      have hT := Lib.hid (fun w => times_any (factV xs) ⟨x.due, 1⟩ w sf sd)
      rw [vd_times hf] at hT
      have hc2 := Lib.hid c2
      have hc4 := Lib.hid c4
      subst hA
      clear hf hx sf sr hxt sd c0 c1 c2 c3 c4
      cases hcr : x.crit
      · have HE := Lib.hid (HV.out.2.2 hcr)
        rw [hcr] at hc4
        clear hcr hT
        go_enter Try.func22, Try.ntmps22
        go_wp2_with fail
        refine (factorOf_impl _ n c xs _ q0.out).mono ?_
        rw [Hf.out]
        rintro e w1 ⟨rfl, hb1⟩
        have hz1 := hz0.trans (hb1.mono hz0.size)
        replace rS := Lib.hid ((rS.out.below hb1).alloc (.cells #[.int .i64 (factV xs).num, .int .i64 (factV xs).den] 27))
        have k2 := (hb1.cell (p := ⟨b, off + k * 5 + 2, none⟩) hb).trans hc2.out
        have k4 := (hb1.cell (p := ⟨b, off + k * 5 + 4, none⟩) hb).trans hc4.out
        have hbw : b < w1.heap.size := Nat.lt_of_lt_of_le hb hb1.size
        have hz1a := hz1.alloc hz1.size (.cells #[.int .i64 (factV xs).num, .int .i64 (factV xs).den] 27)
        have hz1b := hz1a.alloc hz1a.size (.cells #[.int .i64 x.due, .int .i64 1] 27)
        replace rS := Lib.hid (rS.out.alloc (.cells #[.int .i64 x.due, .int .i64 1] 27))
        have r0 := rS.out.cell (i := 0) rfl
        have r1 := rS.out.cell (i := 1) rfl
        have f0 := rS.out.frozen 0
        have f1 := rS.out.frozen 1
        have hlz := rS.out.lt
        clear hb1 hc2 hc4
        go_wp2
        exact bodyPost_ret (v := .tuple #[.agg #[.int .i64 x.due, .int .i64 1], .bool true]) (by simp [results, Try.results22, go_sem, r0, r1]) rfl ⟨by rw [HV.out.1, HE.out], (hz1b.setCell (Nat.le_refl _) _).setCell (Nat.le_refl _) _⟩
      · have HE := Lib.hid (HV.out.2.1 hcr)
        rw [hcr] at hc4
        clear hcr
        generalize red ((factV xs).num * x.due) (factV xs).den = y at *
        go_enter Try.func22, Try.ntmps22
        go_wp2_with fail
        refine (factorOf_impl _ n c xs _ q0.out).mono ?_
        rw [Hf.out]
        rintro e w1 ⟨rfl, hb1⟩
        have hz1 := hz0.trans (hb1.mono hz0.size)
        replace rS := Lib.hid ((rS.out.below hb1).alloc (.cells #[.int .i64 (factV xs).num, .int .i64 (factV xs).den] 27))
        have k2 := (hb1.cell (p := ⟨b, off + k * 5 + 2, none⟩) hb).trans hc2.out
        have k4 := (hb1.cell (p := ⟨b, off + k * 5 + 4, none⟩) hb).trans hc4.out
        have hbw : b < w1.heap.size := Nat.lt_of_lt_of_le hb hb1.size
        have hz1a := hz1.alloc hz1.size (.cells #[.int .i64 (factV xs).num, .int .i64 (factV xs).den] 27)
        have hz1b := hz1a.alloc hz1a.size (.cells #[.int .i64 x.due, .int .i64 1] 27)
        replace rS := Lib.hid (rS.out.alloc (.cells #[.int .i64 x.due, .int .i64 1] 27))
        have rD := Lib.hid (show Blk ((w1.alloc (.cells #[.int .i64 (factV xs).num, .int .i64 (factV xs).den] 27)).alloc (.cells #[.int .i64 x.due, .int .i64 1] 27)) (w1.heap.size + 1) 27 #[.int .i64 x.due, .int .i64 1] by have := Blk.new (w1.alloc (.cells #[.int .i64 (factV xs).num, .int .i64 (factV xs).den] 27)) 27 #[.int .i64 x.due, .int .i64 1]; simpa using this)
        have hlz : w.heap.size < w1.heap.size := by have := hb1.size; simp at this; omega
        clear hb1 hc2 hc4
        go_wp2_with fail
        refine (hT.out _).mono ?_
        rintro e w2 ⟨rfl, hb2⟩
        have hz2 := hz1b.trans (hb2.mono hz1b.size)
        replace rS := Lib.hid (rS.out.below hb2)
        replace rD := Lib.hid (rD.out.below hb2)
        clear hb2
        have r0 := rS.out.cell (i := 0) rfl
        have r1 := rS.out.cell (i := 1) rfl
        have f0 := rS.out.frozen 0
        have f1 := rS.out.frozen 1
        have d0 := rD.out.cell (i := 0) rfl
        have d1 := rD.out.cell (i := 1) rfl
        have g0 := rD.out.frozen 0
        have g1 := rD.out.frozen 1
        have hne : ¬ w.heap.size = w1.heap.size + 1 := by omega
        have hne2 : ¬ w1.heap.size + 1 = w.heap.size := by omega
        go_wp2
        exact bodyPost_ret (v := .tuple #[.agg #[.int .i64 y.num, .int .i64 y.den], .bool true]) (by simp [results, Try.results22, go_sem, r0, r1]) rfl ⟨by rw [HV.out.1, HE.out], (((hz2.setCell (by simp; omega) _).setCell (by simp; omega) _).setCell (Nat.le_refl _) _).setCell (Nat.le_refl _) _⟩
    · have HV := Lib.hid (vdB_no (xs := xs) (i := i) (fun hh => hr ⟨hh.2.1, by rw [← hl.out]; exact hh.2.2⟩))
      have hrg : i < 0 ∨ n ≤ i := by omega
      clear hf hr
      rcases hrg with hrg | hrg
      all_goals
        go_enter Try.func22, Try.ntmps22
        go_wp2_with fail
        refine (factorOf_impl A n c xs _ q0.out).mono ?_
        rw [Hf.out]
        rintro e w1 ⟨rfl, hb1⟩
        have hz1 := hz0.trans (hb1.mono hz0.size)
        replace rS := Lib.hid (rS.out.below hb1)
        clear hb1
        replace rS := Lib.hid (rS.out.alloc (.cells #[.int .i64 (factV xs).num, .int .i64 (factV xs).den] 27))
        have hz1a := hz1.alloc hz1.size (.cells #[.int .i64 (factV xs).num, .int .i64 (factV xs).den] 27)
        have r0 := rS.out.cell (i := 0) rfl
        have r1 := rS.out.cell (i := 1) rfl
        have f0 := rS.out.frozen 0
        have f1 := rS.out.frozen 1
        go_wp2
        exact bodyPost_ret (v := .tuple #[.agg #[.int .i64 0, .int .i64 0], .bool false]) (by simp [results, Try.results22, go_sem, r0, r1]) rfl ⟨by rw [HV.out.1, HV.out.2], (hz1a.setCell (Nat.le_refl _) _).setCell (Nat.le_refl _) _⟩

end Go.Proofs.Ytcdmegiffbhbeaa
