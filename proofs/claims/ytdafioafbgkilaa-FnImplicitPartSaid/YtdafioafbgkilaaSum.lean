/- The contracts of the sums of shares, of the program: sumOf, LowShare, HighShare. No condition. -/
import Derived.Test.YtdafioafbgkilaaShare
import Derived.Test.YtdafioafbgkilaaDrawT
namespace Go.Proofs.Ytdafioafbgkilaa
open Go.RowKit
set_option linter.unusedVariables false

theorem sum_step {N D e f : Int} (hN : 0 ≤ N) (hD : 1 ≤ D) (he : 1 ≤ e) (hf : 0 ≤ f) : red ((red N D).num * e + f * (red N D).den) ((red N D).den * e) = red (N * e + f * D) (D * e) := by
  have a0 := red_num0 hN hD
  have b0 := red_den1 hN hD
  have s0 := red_same hN hD
  generalize (red N D).num = a at *
  generalize (red N D).den = b at *
  refine red_cross ?_ (mul_ge_one b0 he) ?_ (mul_ge_one hD he) ?_
  · exact Int.add_nonneg (Int.mul_nonneg a0 (by omega)) (Int.mul_nonneg hf (by omega))
  · exact Int.add_nonneg (Int.mul_nonneg hN (by omega)) (Int.mul_nonneg hf (by omega))
  · grind
/-- the sum of the first tasks -/
def sumS (c hi : Bool) (xs : List T) : S := red (frn c (need hi) xs) (frd c (need hi) xs)
theorem sumS_zero (c hi : Bool) : sumS c hi [] = ⟨0, 1⟩ := by
  show red 0 1 = ⟨0, 1⟩
  decide
theorem sumS_no {c hi : Bool} {xs : List T} {k : Nat} {x : T} (hx : xs[k]? = some x) (h : ¬ x.crit = c) : sumS c hi (xs.take (k + 1)) = sumS c hi (xs.take k) := by
  unfold sumS frn frd
  rw [take_succ_of hx, fr_no h]
theorem sumS_yes {c hi : Bool} {xs : List T} {k : Nat} {x : T} (hs : svB xs = true) (hx : xs[k]? = some x) (h : x.crit = c) :
    red ((sumS c hi (xs.take k)).num * x.every + need hi x * (sumS c hi (xs.take k)).den) ((sumS c hi (xs.take k)).den * x.every) = sumS c hi (xs.take (k + 1)) := by
  obtain ⟨hl, hv⟩ := sv_all hs
  have hvt : ∀ t ∈ xs.take k, tvB t = true := fun t ht => hv t (List.mem_of_mem_take ht)
  obtain ⟨b1, b2, b3, b4⟩ := fr_bd (c := c) (nd_need hi) hvt (Nat.le_trans (by rw [List.length_take]; omega) hl)
  have hx' := hv x (List.mem_of_getElem? hx)
  have he := tv_every hx'
  have hn := nd_need hi x hx'
  unfold sumS
  rw [sum_step b1 b3 he.1 (by omega), take_succ_of hx, frn_yes h, frd_yes h]
theorem sumS_bd {c hi : Bool} {xs : List T} {k : Nat} (hs : svB xs = true) : 0 ≤ (sumS c hi (xs.take k)).num ∧ (sumS c hi (xs.take k)).num ≤ 16000000 ∧ 1 ≤ (sumS c hi (xs.take k)).den ∧ (sumS c hi (xs.take k)).den ≤ 3200000 := by
  obtain ⟨hl, hv⟩ := sv_all hs
  have hvt : ∀ t ∈ xs.take k, tvB t = true := fun t ht => hv t (List.mem_of_mem_take ht)
  obtain ⟨b1, b2, b3, b4⟩ := fr_bd (c := c) (nd_need hi) hvt (Nat.le_trans (by rw [List.length_take]; omega) hl)
  have h1 := red_num_le b1 b3
  have h2 := red_den_le b1 b3
  unfold sumS
  exact ⟨red_num0 b1 b3, by omega, red_den1 b1 b3, by omega⟩
theorem sumS_all {c hi : Bool} {xs : List T} {n : Nat} (hs : svB xs = true) (hl : xs.length = n) : sumS c hi (xs.take n) = shr c (need hi) xs := by
  rw [List.take_of_length_le (by omega), shr_yes hs]; rfl

set_option maxRecDepth 100000 in
set_option maxHeartbeats 6400000 in
theorem sumOf_any (A : Option Addr) (n c : Nat) (xs : List T) (cr hi : Bool) (w : World) (h : RdT w A n c xs) :
    Calls Try.prog 66 #[.slice A n c, .bool cr, .bool hi] w fun e w' => e = .returned (.agg #[.int .i64 (shr cr (need hi) xs).num, .int .i64 (shr cr (need hi) xs).den]) ∧ Below w.heap.size w w' := by
  have hV := Lib.hid (setValid_impl A n c xs (w.alloc (.cells #[.int .i64 0, .int .i64 0] 28)) (h.alloc _))
  have hbz : Below w.heap.size w (w.alloc (.cells #[.int .i64 0, .int .i64 0] 28)) := (Below.refl _ _).alloc (Nat.le_refl _) _
  have hT := Lib.hid h
  have rS0 := Lib.hid (Blk.new w 28 #[.int .i64 0, .int .i64 0])
  cases hs : svB xs
  · rw [hs] at hV
    have hR := Lib.hid (shr_no (c := cr) (f := need hi) hs)
    clear h hs
    go_enter Try.func66, Try.ntmps66
    go_wp2_with fail
    refine hV.out.mono ?_
    rintro e w1 ⟨rfl, hb1⟩
    have hbw := hbz.trans (hb1.mono (by simp))
    obtain ⟨hc, hf⟩ := bcell hb1
    have hz : w.heap.size < w1.heap.size := by have := hb1.size; simp at this; omega
    clear hb1 hbz hV
    go_wp2
    exact bodyPost_ret (v := .agg #[.int .i64 0, .int .i64 0]) (by simp [results, Try.results66, go_sem, hc]) rfl ⟨by rw [hR.out], (hbw.setCell (Nat.le_refl _) _).setCell (Nat.le_refl _) _⟩
  · rw [hs] at hV
    have Hs := Lib.hid hs
    have hn5 : n ≤ 5 := by have := (sv_all hs).1; have := h.len; omega
    clear h hs
    go_enter Try.func66, Try.ntmps66
    go_wp2_with fail
    refine hV.out.mono ?_
    rintro e w1 ⟨rfl, hb1⟩
    have hbw := hbz.trans (hb1.mono (by simp))
    have rS := Lib.hid (rS0.out.below hb1)
    have hz : w.heap.size < w1.heap.size := by have := hb1.size; simp at this; omega
    clear hb1 hbz hV rS0
    go_wp2_with fail
    go_loopw [18] (fun i wr => ∃ (k : Nat), i = .int .i64 k ∧ k ≤ n ∧ Blk wr w.heap.size 28 #[.int .i64 0, .int .i64 0] ∧ Blk wr w1.heap.size 28 #[.int .i64 (sumS cr hi (xs.take k)).num, .int .i64 (sumS cr hi (xs.take k)).den] ∧ Below w.heap.size w wr) (fun i _ => n - (intOf i).toNat)
    case atStart => exact ⟨0, rfl, Nat.zero_le _, rS.out.alloc _, by rw [List.take_zero, sumS_zero]; exact Blk.new _ _ _, hbw.alloc hbw.size _⟩
    case round =>
      obtain ⟨k, rfl, hk, qS, qG, hbel⟩ := hrel
      have hsz := hbel.size
      have hGl := qG.lt
      have g0 := qG.cell (i := 0) rfl
      have g1 := qG.cell (i := 1) rfl
      have gf0 := qG.frozen 0
      have gf1 := qG.frozen 1
      clear hbw rS
      by_cases hkn : k < n
      · obtain ⟨b, off, x, rfl, hx, hb, c0, c1, c2, c3, c4⟩ := (hT.out.below hbel).taskAt hkn
        have hx' := (sv_all Hs.out).2 x (List.mem_of_getElem? hx)
        have he := tv_every hx'
        have hnd := nd_need hi x hx'
        have he1 : 1 ≤ x.every := he.1
        have he2 : x.every ≤ 20 := he.2
        have hqS := Lib.hid (qS.alloc (.cells #[.int .i64 x.low, .int .i64 x.high, .int .i64 x.due, .int .i64 x.every, .bool x.crit] 48))
        have hqG := Lib.hid (qG.alloc (.cells #[.int .i64 x.low, .int .i64 x.high, .int .i64 x.due, .int .i64 x.every, .bool x.crit] 48))
        have hb2 := Lib.hid (hbel.alloc hsz (.cells #[.int .i64 x.low, .int .i64 x.high, .int .i64 x.due, .int .i64 x.every, .bool x.crit] 48))
        by_cases hc : x.crit = cr
        · have hcb : (!(x.crit == cr)) = false := by simp [hc]
          obtain ⟨b1, b2, b3, b4⟩ := sumS_bd (c := cr) (hi := hi) (k := k) Hs.out
          have hY := sumS_yes (hi := hi) Hs.out hx hc
          generalize hss : sumS cr hi (xs.take k) = s at *
          have hn1 : 1 ≤ need hi x := hnd.1
          have hn2 : need hi x ≤ 20 := by omega
          obtain ⟨p1, p2⟩ := sm_mul (a := s.num) (b := x.every) b1 (by omega) (by omega) (by omega)
          obtain ⟨q1, q2⟩ := sm_mul (a := need hi x) (b := s.den) (by omega) (by omega) (by omega) (by omega)
          obtain ⟨_, r2⟩ := sm_mul (a := s.den) (b := x.every) (by omega) (by omega) (by omega) (by omega)
          have r1 := mul_ge_one b3 he1
          have hC := Lib.hid (reduced_any (s.num * x.every + need hi x * s.den) (s.den * x.every) (wr.alloc (.cells #[.int .i64 x.low, .int .i64 x.high, .int .i64 x.due, .int .i64 x.every, .bool x.crit] 48)) (by omega) (by omega) r1 (by omega))
          rw [hY] at hC
          replace hY := Lib.hid hY
          replace hss := Lib.hid hss
          clear hx hx' he hnd qS qG hbel hc
          cases hi
          all_goals
            simp only [need, if_true, if_false, Bool.false_eq_true] at hC q1 q2 hn1 hn2
            go_wp2_with fail
            refine hC.out.mono ?_
            rintro e w2 ⟨rfl, hb3⟩
            replace hqS := Lib.hid (hqS.out.below hb3)
            replace hqG := hqG.out.below hb3
            have d0 := hqG.cell (i := 0) rfl
            have d1 := hqG.cell (i := 1) rfl
            have e0 := hqG.frozen 0
            have e1 := hqG.frozen 1
            replace hqG := Lib.hid hqG
            have hb4 := Lib.hid (hb2.out.trans (hb3.mono hb2.out.size))
            clear hb3 hC g0 g1 gf0 gf1 c0 c1 c2 c3 c4
            go_wp2
            go_roundw
            case rel => exact ⟨k + 1, by go_num, by omega, (hqS.out.far (by simp; omega) _).far (by simp; omega) _, (hqG.out.set_ 0 _).set_ 1 _, (hb4.out.setCell (by simp; omega) _).setCell (by simp; omega) _⟩
            case measure => simp [intOf]; omega
        · have hcb : (!(x.crit == cr)) = true := by simpa using hc
          have hY := Lib.hid (sumS_no (hi := hi) hx hc)
          clear hx hx' he hnd qS qG hbel hc
          go_wp2
          go_roundw
          case rel => exact ⟨k + 1, by go_num, by omega, hqS.out, by rw [hY.out]; exact hqG.out, hb2.out⟩
          case measure => simp [intOf]; omega
      · have hkn' : k = n := by omega
        subst hkn'
        have hA := Lib.hid (sumS_all (c := cr) (hi := hi) Hs.out hT.out.len)
        rw [hA.out] at g0 g1
        generalize hsh : shr cr (need hi) xs = s at *
        have Hsh := Lib.hid hsh
        clear hsh
        have r0 := qS.cell (i := 0) rfl
        have r1 := qS.cell (i := 1) rfl
        have rf0 := qS.frozen 0
        have rf1 := qS.frozen 1
        clear qS qG
        go_wp2
        exact bodyPost_ret (v := .agg #[.int .i64 s.num, .int .i64 s.den]) (by simp [results, Try.results66, go_sem, r0, r1]) rfl ⟨by rw [Hsh.out], (hbel.setCell (Nat.le_refl _) _).setCell (Nat.le_refl _) _⟩

set_option maxHeartbeats 800000 in
theorem lowShare_impl (A : Option Addr) (n c : Nat) (xs : List T) (cr : Bool) (w : World) (h : RdT w A n c xs) :
    Calls Try.prog 29 #[.slice A n c, .bool cr] w fun e w' => e = .returned (.agg #[.int .i64 (shr cr T.low xs).num, .int .i64 (shr cr T.low xs).den]) ∧ Below w.heap.size w w' := by
  have hC := Lib.hid (sumOf_any A n c xs cr false (w.alloc (.cells #[.int .i64 0, .int .i64 0] 28)) (h.alloc _))
  rw [show need false = T.low from rfl] at hC
  have hbz : Below w.heap.size w (w.alloc (.cells #[.int .i64 0, .int .i64 0] 28)) := (Below.refl _ _).alloc (Nat.le_refl _) _
  generalize shr cr T.low xs = r at *
  clear h
  go_enter Try.func29, Try.ntmps29
  go_wp2_with fail
  refine hC.out.mono ?_
  rintro e w1 ⟨rfl, hb1⟩
  have hbw := hbz.trans (hb1.mono (by simp))
  obtain ⟨hc, hf⟩ := bcell hb1
  have hz : w.heap.size < w1.heap.size := by have := hb1.size; simp at this; omega
  clear hb1 hbz hC
  go_wp2
  exact bodyPost_ret (v := .agg #[.int .i64 r.num, .int .i64 r.den]) (by simp [results, Try.results29, go_sem, hc]) rfl ⟨rfl, (hbw.setCell (Nat.le_refl _) _).setCell (Nat.le_refl _) _⟩

set_option maxHeartbeats 800000 in
theorem highShare_impl (A : Option Addr) (n c : Nat) (xs : List T) (w : World) (h : RdT w A n c xs) :
    Calls Try.prog 32 #[.slice A n c] w fun e w' => e = .returned (.agg #[.int .i64 (shr true T.high xs).num, .int .i64 (shr true T.high xs).den]) ∧ Below w.heap.size w w' := by
  have hC := Lib.hid (sumOf_any A n c xs true true (w.alloc (.cells #[.int .i64 0, .int .i64 0] 28)) (h.alloc _))
  rw [show need true = T.high from rfl] at hC
  have hbz : Below w.heap.size w (w.alloc (.cells #[.int .i64 0, .int .i64 0] 28)) := (Below.refl _ _).alloc (Nat.le_refl _) _
  generalize shr true T.high xs = r at *
  clear h
  go_enter Try.func32, Try.ntmps32
  go_wp2_with fail
  refine hC.out.mono ?_
  rintro e w1 ⟨rfl, hb1⟩
  have hbw := hbz.trans (hb1.mono (by simp))
  obtain ⟨hc, hf⟩ := bcell hb1
  have hz : w.heap.size < w1.heap.size := by have := hb1.size; simp at this; omega
  clear hb1 hbz hC
  go_wp2
  exact bodyPost_ret (v := .agg #[.int .i64 r.num, .int .i64 r.den]) (by simp [results, Try.results32, go_sem, hc]) rfl ⟨rfl, (hbw.setCell (Nat.le_refl _) _).setCell (Nat.le_refl _) _⟩

end Go.Proofs.Ytdafioafbgkilaa
