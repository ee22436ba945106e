/- The contracts of the sums of shares, of the reference: LowShare, HighShare. No condition. -/
import Derived.Test.YtdafioafbgkilaaSum
import Derived.Test.YtdafioafbgkilaaL2
import Derived.Test.YtdafioafbgkilaaCrit
import Derived.Deep.DeepCutAuto
namespace Go.Proofs.Ytdafioafbgkilaa
open Go.RowKit
set_option linter.unusedVariables false

theorem sumS_plus {c : Bool} {xs : List T} {k : Nat} {x : T} (hs : svB xs = true) (hx : xs[k]? = some x) (h : x.crit = c) :
    plusV (sumS c false (xs.take k)) (red x.low x.every) = sumS c false (xs.take (k + 1)) := by
  obtain ⟨hl, hv⟩ := sv_all hs
  have hvt : ∀ t ∈ xs.take k, tvB t = true := fun t ht => hv t (List.mem_of_mem_take ht)
  obtain ⟨b1, b2, b3, b4⟩ := fr_bd (c := c) (nd_need false) hvt (Nat.le_trans (by rw [List.length_take]; omega) hl)
  have hx' := hv x (List.mem_of_getElem? hx)
  have he := tv_every hx'
  have hn := nd_low x hx'
  unfold sumS plusV
  rw [red_plus b1 b3 (by omega) he.1, take_succ_of hx, frn_yes h, frd_yes h]
  rfl

theorem two_set {w : World} {g : Nat} {u v : Value} (h0 : w.cell? ⟨g, 0, none⟩ = some u) (h1 : w.cell? ⟨g, 1, none⟩ = some v) {a b : Value} :
    ((w.setCell ⟨g, 0, none⟩ a).setCell ⟨g, 1, none⟩ b).cell? ⟨g, 0, none⟩ = some a ∧ ((w.setCell ⟨g, 0, none⟩ a).setCell ⟨g, 1, none⟩ b).cell? ⟨g, 1, none⟩ = some b := by
  constructor
  · rw [World.cell?_setCell_other _ _ _ _ (by simp)]
    exact World.cell?_setCell_same _ _ _ h0
  · exact World.cell?_setCell_same _ _ _ (show (w.setCell ⟨g, 0, none⟩ a).cell? ⟨g, 1, none⟩ = some v from by rw [World.cell?_setCell_other _ _ _ _ (by simp)]; exact h1)
theorem below_drew {w w' : World} (h : Below w.drew.heap.size w.drew w') : Below w.heap.size w w' := ⟨h.os, h.tape, h.output, h.size, h.block⟩

set_option maxRecDepth 100000 in
set_option maxHeartbeats 6400000 in
theorem lowShare_spec (A : Option Addr) (n c : Nat) (xs : List T) (cr : Bool) (w : World) (h : RdT w A n c xs) :
    Calls Try.prog 48 #[.slice A n c, .bool cr] w fun e w' => e = .returned (.agg #[.int .i64 (shr cr T.low xs).num, .int .i64 (shr cr T.low xs).den]) ∧ Below w.heap.size w w' := by
  have hV := Lib.hid (setValid_spec A n c xs ((w.alloc (.cells #[.int .i64 0, .int .i64 0] 28)).alloc (.cells #[.int .i64 0, .int .i64 1] 28)) ((h.alloc _).alloc _))
  have hbz : Below w.heap.size w ((w.alloc (.cells #[.int .i64 0, .int .i64 0] 28)).alloc (.cells #[.int .i64 0, .int .i64 1] 28)) := ((Below.refl _ _).alloc (Nat.le_refl _) _).alloc (by simp) _
  have hT := Lib.hid h
  have rS0 := Lib.hid ((Blk.new w 28 #[.int .i64 0, .int .i64 0]).alloc (.cells #[.int .i64 0, .int .i64 1] 28))
  have rG0 := Lib.hid (show Blk ((w.alloc (.cells #[.int .i64 0, .int .i64 0] 28)).alloc (.cells #[.int .i64 0, .int .i64 1] 28)) (w.heap.size + 1) 28 #[.int .i64 0, .int .i64 1] by have := Blk.new (w.alloc (.cells #[.int .i64 0, .int .i64 0] 28)) 28 #[.int .i64 0, .int .i64 1]; simpa using this)
  cases hs : svB xs
  · rw [hs] at hV
    have hR := Lib.hid (shr_no (c := cr) (f := T.low) hs)
    clear h hs
    go_enter Try.func48, Try.ntmps48
    go_wp2_with fail
    refine hV.out.mono ?_
    rintro e w1 ⟨rfl, hb1⟩
    have hbw := hbz.trans (hb1.mono (by simp; omega))
    have rS := rS0.out.below hb1
    have r0 := rS.cell (i := 0) rfl
    have r1 := rS.cell (i := 1) rfl
    have f0 := rS.frozen 0
    have f1 := rS.frozen 1
    clear hb1 hbz hV rS0 rG0 rS
    go_wp2
    exact bodyPost_ret (v := .agg #[.int .i64 0, .int .i64 0]) (by simp [results, Try.results48, go_sem, r0, r1]) rfl ⟨by rw [hR.out], (hbw.setCell (Nat.le_refl _) _).setCell (Nat.le_refl _) _⟩
  · rw [hs] at hV
    have Hs := Lib.hid hs
    have hn5 : n ≤ 5 := by have := (sv_all hs).1; have := h.len; omega
    clear h hs
    go_enter Try.func48, Try.ntmps48
    go_wp2_with fail
    refine hV.out.mono ?_
    rintro e w1 ⟨rfl, hb1⟩
    have hbw := hbz.trans (hb1.mono (by simp; omega))
    have rS := Lib.hid (rS0.out.below hb1)
    have rG := Lib.hid (rG0.out.below hb1)
    clear hb1 hbz hV rS0 rG0
    go_wp2_with fail
    go_loopw [6] (fun i wr => ∃ (k : Nat), i = .int .i64 k ∧ k ≤ n ∧ Blk wr w.heap.size 28 #[.int .i64 0, .int .i64 0] ∧ Blk wr (w.heap.size + 1) 28 #[.int .i64 (sumS cr false (xs.take k)).num, .int .i64 (sumS cr false (xs.take k)).den] ∧ Below w.heap.size w wr) (fun i _ => n - (intOf i).toNat)
    case atStart => exact ⟨0, rfl, Nat.zero_le _, rS.out, by rw [List.take_zero, sumS_zero]; exact rG.out, hbw⟩
    case round =>
      obtain ⟨k, rfl, hk, qS, qG, hbel⟩ := hrel
      have hsz := hbel.size
      have hGl := qG.lt
      clear hbw rS rG
      by_cases hkn : k < n
      · obtain ⟨b, off, x, rfl, hx, hb, c0, c1, c2, c3, c4⟩ := (hT.out.below hbel).taskAt hkn
        have hx' := (sv_all Hs.out).2 x (List.mem_of_getElem? hx)
        have hq := (tvB_iff x).1 hx'
        by_cases hc : x.crit = cr
        · have hcb : (x.crit == cr) = true := by simp [hc]
          have hY := sumS_plus Hs.out hx hc
          obtain ⟨b1, b2, b3, b4⟩ := sumS_bd (c := cr) (hi := false) (k := k) Hs.out
          obtain ⟨z1, z2, z3, z4⟩ := sumS_bd (c := cr) (hi := false) (k := k + 1) Hs.out
          have y1 := red_num0 (n := x.low) (d := x.every) (by omega) (by omega)
          have y2 := red_num_le (n := x.low) (d := x.every) (by omega) (by omega)
          have y3 := red_den1 (n := x.low) (d := x.every) (by omega) (by omega)
          have y4 := red_den_le (n := x.low) (d := x.every) (by omega) (by omega)
          have hM := Lib.hid (fun w => makeShare_spec x.low x.every w (by omega) (by omega) (by omega) (by omega))
          have hL := Lib.hid (fun w => l2Add_any (sumS cr false (xs.take k)) (red x.low x.every) w ⟨b1, by omega, b3, by omega⟩ ⟨y1, by omega, y3, by omega⟩ (by rw [hY]; exact ⟨z1, by omega, z3, by omega⟩))
          rw [hY] at hL
          generalize red x.low x.every = y at *
          generalize hss : sumS cr false (xs.take k) = s at *
          have Hss := Lib.hid hss
          have qSh := Lib.hid qS
          have qGh := Lib.hid qG
          clear hx hx' hq hY qS qG hc y1 y2 y3 y4 b1 b2 b3 b4 z1 z2 z3 z4 hss
          have hbel' := Lib.hid hbel
          go_upto_region 8 with fail
          go_cut [7, 8] (fun s7 s8 wx => ∃ (g : Nat) (o : Bool), s7 = .pointer (some ⟨g, 0, none⟩) ∧ s8 = .bool o ∧ Below wr.heap.size wr wx ∧ wx.cell? ⟨g, 0, none⟩ = some (.int .i64 y.num) ∧ wx.cell? ⟨g, 1, none⟩ = some (.int .i64 y.den))
          case first =>
            go_region_with (first | (go_at_call 50; refine (hM.out _).mono ?_; rintro e w3 ⟨rfl, hb3⟩; obtain ⟨hc3, hf3⟩ := bcell hb3; have hz3 := hb3.size))
            all_goals
              go_wp2_with fail
              go_meet
              first
                | exact ⟨_, _, rfl, rfl, (fun X => Below.alloc X X.size _) (below_drew hb3), World.cell?_alloc_at _ _ _ _ rfl, World.cell?_alloc_at _ _ _ _ rfl⟩
                | (have hX : Below wr.heap.size wr w3 := ((Below.refl _ _).alloc (Nat.le_refl _) (.cells #[.int .i64 0, .int .i64 0] 28)).trans (Below.mono (below_drew hb3) (by simp))
                   have z0 : w3.cell? ⟨wr.heap.size, 0, none⟩ = some (.int .i64 0) := by rw [hc3 _ _ (by simp)]; exact World.cell?_alloc_at _ _ _ _ rfl
                   have z1 : w3.cell? ⟨wr.heap.size, 1, none⟩ = some (.int .i64 0) := by rw [hc3 _ _ (by simp)]; exact World.cell?_alloc_at _ _ _ _ rfl
                   exact ⟨_, _, rfl, rfl, (hX.setCell (Nat.le_refl _) _).setCell (Nat.le_refl _) _, (two_set z0 z1).1, (two_set z0 z1).2⟩)
          case rest =>
            obtain ⟨g, o, rfl, rfl, hbx, y0, y1⟩ := hcut
            have hqS := Lib.hid (qSh.out.below hbx)
            have hqG := qGh.out.below hbx
            have g0 := hqG.cell (i := 0) rfl
            have g1 := hqG.cell (i := 1) rfl
            have gf0 := hqG.frozen 0
            have gf1 := hqG.frozen 1
            replace hqG := Lib.hid hqG
            have hbw := hbel'.out.trans (hbx.mono hbel'.out.size)
            clear hbx hbel c0 c1 c2 c3 c4
            go_wp2_with fail
            refine (hL.out _).mono ?_
            rintro e w4 ⟨rfl, hb4⟩
            replace hqS := Lib.hid (hqS.out.below hb4)
            replace hqG := hqG.out.below hb4
            have d0 := hqG.cell (i := 0) rfl
            have d1 := hqG.cell (i := 1) rfl
            have e0 := hqG.frozen 0
            have e1 := hqG.frozen 1
            replace hqG := Lib.hid hqG
            have hb5 := hbw.trans (hb4.mono hbw.size)
            clear hb4 g0 g1 gf0 gf1 y0 y1 hbw
            go_wp2
            go_roundw
            case rel => exact ⟨k + 1, by go_num, by omega, (hqS.out.far (by simp) _).far (by simp) _, (hqG.out.set_ 0 _).set_ 1 _, (hb5.setCell (by simp) _).setCell (by simp) _⟩
            case measure => simp [intOf]; omega
        · have hcb : (x.crit == cr) = false := by simpa using hc
          have hY := Lib.hid (sumS_no (hi := false) hx hc)
          clear hx hx' hq hc
          go_wp2
          go_roundw
          case rel => exact ⟨k + 1, by go_num, by omega, qS, by rw [hY.out]; exact qG, hbel⟩
          case measure => simp [intOf]; omega
      · have hkn' : k = n := by omega
        subst hkn'
        have hA := Lib.hid (show sumS cr false (xs.take k) = shr cr T.low xs from sumS_all (c := cr) (hi := false) Hs.out hT.out.len)
        rw [hA.out] at qG
        generalize hsh : shr cr T.low xs = s at *
        have Hsh := Lib.hid hsh
        clear hsh
        have g0 := qG.cell (i := 0) rfl
        have g1 := qG.cell (i := 1) rfl
        have r0 := qS.cell (i := 0) rfl
        have r1 := qS.cell (i := 1) rfl
        have rf0 := qS.frozen 0
        have rf1 := qS.frozen 1
        clear qS qG
        go_wp2
        exact bodyPost_ret (v := .agg #[.int .i64 s.num, .int .i64 s.den]) (by simp [results, Try.results48, go_sem, r0, r1]) rfl ⟨by rw [Hsh.out], (hbel.setCell (Nat.le_refl _) _).setCell (Nat.le_refl _) _⟩


set_option maxHeartbeats 1600000 in
theorem highShare_spec (A : Option Addr) (n c : Nat) (xs : List T) (w : World) (h : RdT w A n c xs) :
    Calls Try.prog 52 #[.slice A n c] w fun e w' => e = .returned (.agg #[.int .i64 (shr true T.high xs).num, .int .i64 (shr true T.high xs).den]) ∧ Below w.heap.size w w' := by
  have hV := Lib.hid (setValid_spec A n c xs (w.alloc (.cells #[.int .i64 0, .int .i64 0] 28)) (h.alloc _))
  have hbz : Below w.heap.size w (w.alloc (.cells #[.int .i64 0, .int .i64 0] 28)) := (Below.refl _ _).alloc (Nat.le_refl _) _
  have hT := Lib.hid h
  have rS0 := Lib.hid (Blk.new w 28 #[.int .i64 0, .int .i64 0])
  cases hs : svB xs
  · rw [hs] at hV
    have hR := Lib.hid (shr_no (c := true) (f := T.high) hs)
    clear h hs
    go_enter Try.func52, Try.ntmps52
    go_wp2_with fail
    refine hV.out.mono ?_
    rintro e w1 ⟨rfl, hb1⟩
    have hbw := hbz.trans (hb1.mono (by simp))
    have rS := rS0.out.below hb1
    have r0 := rS.cell (i := 0) rfl
    have r1 := rS.cell (i := 1) rfl
    have f0 := rS.frozen 0
    have f1 := rS.frozen 1
    clear hb1 hbz hV rS0 rS
    go_wp2
    exact bodyPost_ret (v := .agg #[.int .i64 0, .int .i64 0]) (by simp [results, Try.results52, go_sem, r0, r1]) rfl ⟨by rw [hR.out], (hbw.setCell (Nat.le_refl _) _).setCell (Nat.le_refl _) _⟩
  · rw [hs] at hV
    have hR := Lib.hid (shr_crit hs)
    have hCV := Lib.hid (critV_yes hs)
    clear h hs
    go_enter Try.func52, Try.ntmps52
    go_wp2_with fail
    refine hV.out.mono ?_
    rintro e w1 ⟨rfl, hb1⟩
    have hbw := hbz.trans (hb1.mono (by simp))
    have rS := Lib.hid (rS0.out.below hb1)
    have qT := Lib.hid (hT.out.below hbw)
    clear hb1 hbz hV rS0
    go_wp2_with fail
    refine (criticalOf_spec A n c xs w1 qT.out).mono ?_
    rintro e w2 ⟨D, k, d, rfl, o2, hb2⟩
    have hbw2 := hbw.trans (hb2.mono hbw.size)
    replace rS := Lib.hid (rS.out.below hb2)
    have q2 := Lib.hid (Rd.of_own T.cells_len o2.1 o2.2)
    clear hb2 hbw o2
    go_wp2_with fail
    refine (lowShare_spec D k d (critV xs) true w2 q2.out).mono ?_
    rw [hCV.out, hR.out]
    rintro e w3 ⟨rfl, hb3⟩
    have hbw3 := hbw2.trans (hb3.mono hbw2.size)
    have rS3 := rS.out.below hb3
    have r0 := rS3.cell (i := 0) rfl
    have r1 := rS3.cell (i := 1) rfl
    have f0 := rS3.frozen 0
    have f1 := rS3.frozen 1
    clear hb3 hbw2 rS rS3
    go_wp2
    exact bodyPost_ret (v := .agg #[.int .i64 (shr true T.high xs).num, .int .i64 (shr true T.high xs).den]) (by simp [results, Try.results52, go_sem, r0, r1]) rfl ⟨rfl, (hbw3.setCell (Nat.le_refl _) _).setCell (Nat.le_refl _) _⟩

end Go.Proofs.Ytdafioafbgkilaa
