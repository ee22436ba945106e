/- The contract of orders, of the program, with the listener impl.AnyOrder$1: it tells all orders until told to stop. Conditions: at most five numbers; a contract of the listener. -/
import Derived.Test.YtcgjifklapaeeaaEnumI
import Derived.Test.YtcgjifklapaeeaaMoreC
import Derived.Deep.RegionHeld3
import Derived.Maps.AppendAt
import Derived.Test.YtcgjifklapaeeaaCan
namespace Go.Proofs.Ytcgjifklapaeeaa
open Go.RowKit
set_option linter.unusedVariables false

/-- the boxes of orders: how many, the listener, the closure itself -/
def BoxA (W : World) (n Bm Bt Bk : Nat) (P1 P2 P3 : Nat) : Prop :=
  Blk W Bm 3 #[.int .i64 (n : Int)] ∧ Blk W Bt 45 #[.func (.func 37) #[] #[.pointer (some ⟨P1, 0, none⟩), .pointer (some ⟨P2, 0, none⟩), .pointer (some ⟨P3, 0, none⟩)]] ∧
    Blk W Bk 45 #[.func (.func 48) #[] #[.pointer (some ⟨Bm, 0, none⟩), .pointer (some ⟨Bt, 0, none⟩), .pointer (some ⟨Bk, 0, none⟩)]]
theorem BoxA.kept {S : Nat → Prop} {W W' : World} {n Bm Bt Bk P1 P2 P3 : Nat} (h : BoxA W n Bm Bt Bk P1 P2 P3) (hk : Kept S W W') (h1 : ¬ S Bm) (h2 : ¬ S Bt) (h3 : ¬ S Bk) : BoxA W' n Bm Bt Bk P1 P2 P3 :=
  ⟨h.1.kept hk h1, h.2.1.kept hk h2, h.2.2.kept hk h3⟩
theorem BoxA.below {W W' : World} {n Bm Bt Bk P1 P2 P3 : Nat} (h : BoxA W n Bm Bt Bk P1 P2 P3) (hb : Below W.heap.size W W') : BoxA W' n Bm Bt Bk P1 P2 P3 :=
  ⟨h.1.below hb, h.2.1.below hb, h.2.2.below hb⟩

/-- a listener's contract -/
def TellA {σ : Type} (step : σ → List Int → σ × Bool) (Inv : σ → World → Prop) (S : Nat → Prop) (n P1 P2 P3 : Nat) : Prop :=
  ∀ (s : σ) (o : List Int) (A : Option Addr) (c : Nat) (W : World), Inv s W → RdI W A n c o → isOrd n o = true → (n = 0 → A = none ∧ c = 0) →
    Calls Try.prog 37 #[.slice A n c, .pointer (some ⟨P1, 0, none⟩), .pointer (some ⟨P2, 0, none⟩), .pointer (some ⟨P3, 0, none⟩)] W (MorePost Inv S W (step s o))

set_option maxRecDepth 100000 in
set_option maxHeartbeats 12800000 in
theorem moreA_any {σ : Type} (step : σ → List Int → σ × Bool) (Inv : σ → World → Prop) (S : Nat → Prop) (n P1 P2 P3 Bm Bt Bk : Nat) (hn : n ≤ 5) (hT : TellA step Inv S n P1 P2 P3)
    (hI : ∀ s W W', Inv s W → Below W.heap.size W W' → Inv s W') (hSm : ∀ i, S i → i < Bm) (hmt : Bm < Bt) (htk : Bt < Bk) :
    ∀ (k : Nat) (b : List Int) (s : σ) (A : Option Addr) (m c : Nat) (W : World), m + k = n → RdI W A m c b → preOrd n b → (m = 0 → A = none ∧ c = 0) → (∀ g off, A = some ⟨g, off, none⟩ → 0 < m → Bm ≤ g) →
    Inv s W → BoxA W n Bm Bt Bk P1 P2 P3 →
    Calls Try.prog 48 #[.slice A m c, .pointer (some ⟨Bm, 0, none⟩), .pointer (some ⟨Bt, 0, none⟩), .pointer (some ⟨Bk, 0, none⟩)] W (MorePost Inv S W (foldO step s (allO n k b))) := by
  intro k
  induction k with
  | zero =>
    intro b s A m c W hm h hpre h0 hap hs hbx
    obtain rfl : m = n := by omega
    have hT1 := hT s b A c W hs h ((isOrd_iff _ _).2 ⟨h.len, hpre⟩) h0
    have e0 : foldO step s (allO m 0 b) = step s b := foldO_one step s b
    rw [e0]
    generalize step s b = R at *
    obtain ⟨t, q⟩ := R
    have HT := Lib.hid hT1
    have k0 := hbx.1.cell (i := 0) rfl
    have k1 := hbx.2.1.cell (i := 0) rfl
    have hb2 : ((m : Int) == m) = true := by simp
    clear hT hI hT1 e0 h hpre h0 hap hs hbx
    go_enter Try.func48, Try.ntmps48
    go_wp2_with fail
    refine HT.out.mono ?_
    rintro e w1 hp
    obtain ⟨rfl, hi1, hk1⟩ := hp.opn
    have HI1 := Lib.hid hi1
    have HK1 := Lib.hid hk1
    clear hi1 hk1 hp
    go_wp2
    go_ret
    exact ⟨rfl, HI1.out, HK1.out⟩
  | succ k ih =>
    intro b s A m c W hm h hpre h0 hap hs hbx
    obtain ⟨inf, hinf, iz0, iz1, iz2⟩ := info_parts infoIntD
    have q0 := Lib.hid h
    have hne : ((m : Int) == n) = false := by simp; omega
    have k0 := hbx.1.cell (i := 0) rfl
    have IH := Lib.hid ih
    have HT := Lib.hid hT
    have HI := Lib.hid hI
    have HP := Lib.hid hpre
    have H0 := Lib.hid h0
    have HA := Lib.hid hap
    have HB := Lib.hid hbx
    have hl := Lib.hid h.len
    have S1 := Lib.hid (show ¬ S Bm from fun e => by have := hSm _ e; omega)
    have S2 := Lib.hid (show ¬ S Bt from fun e => by have := hSm _ e; omega)
    have S3 := Lib.hid (show ¬ S Bk from fun e => by have := hSm _ e; omega)
    have SA := Lib.hid (show ∀ g off, A = some ⟨g, off, none⟩ → 0 < m → ¬ S g from fun g off e h0 hS => by have := hSm _ hS; have := hap g off e h0; omega)
    have HS := Lib.hid (show Hid (Inv s W) from Lib.hid hs)
    have hBm : Bm < W.heap.size := hbx.1.lt
    clear ih hT hI h hpre h0 hap hs hbx hSm
    go_enter Try.func48, Try.ntmps48
    go_wp2_with fail
    go_loopw [15] (fun iv wr => ∃ j : Nat, iv = .int .i64 j ∧ j ≤ n ∧ Hid ((foldO step s (allTo n k b j)).2 = true) ∧ Hid (Inv (foldO step s (allTo n k b j)).1 wr) ∧ Hid (Kept S W wr)) (fun iv _ => n - (intOf iv).toNat)
    case atStart => exact ⟨0, rfl, Nat.zero_le _, Lib.hid rfl, HS.out, Lib.hid (Kept.refl S W)⟩
    case round =>
      obtain ⟨j, rfl, hj, hgo, hinv, hkp⟩ := hrel
      by_cases hjn : j < n
      · have q1 := Lib.hid (q0.out.kept hkp.out SA.out)
        by_cases hin : (j : Int) ∈ b
        · have HN := Lib.hid (allTo_in (n := n) (k := k) hin)
          have HC := Lib.hid (fun d os => Calls.regrown_of (d := d) (os := os) (contains_ints A m c b j true (Go.Sort.grow (redrawn wr d) os) (q1.out.regrown d os) (decide_eq_true hin)))
          clear hin
          go_wp2_with fail
          refine wp_region_quiet_below (by kernel_rfl) (by kernel_rfl) ?_
          repeat (go_big_quiet_step ((go_at_call 49; exact HC.out _ _)))
          refine wpQuiet_nil ?_
          intro w2 hwq
          have hbq := below_of_regrown hwq
          clear hwq
          have HK2 := Lib.hid (hkp.out.below hbq)
          have HI2 := Lib.hid (HI.out _ _ _ hinv.out hbq)
          clear hbq
          go_wp2
          go_roundw
          case rel => exact ⟨j + 1, by go_num, by omega, Lib.hid (by rw [HN.out]; exact hgo.out), Lib.hid (by rw [HN.out]; exact HI2.out), HK2⟩
          case measure => simp [intOf]; omega
        · have HN := Lib.hid (allTo_out (n := n) (k := k) hin)
          have hpj := Lib.hid (preOrd_snoc HP.out hjn hin)
          have HF := Lib.hid (foldO_go (bs := allO n k (b ++ [(j : Int)])) hgo.out)
          have HE := Lib.hid (allTo_ext (k := k) (b := b) (show j + 1 ≤ n by omega))
          have HB1 := Lib.hid (HB.out.kept hkp.out S1.out S2.out S3.out)
          have hBw : Bm < wr.heap.size := Nat.lt_of_lt_of_le hBm hkp.out.size
          have HM := Lib.hid (IH.out (b ++ [(j : Int)]) (foldO step s (allTo n k b j)).1)
          generalize hR : foldO step (foldO step s (allTo n k b j)).1 (allO n k (b ++ [(j : Int)])) = R at *
          obtain ⟨t, q⟩ := R
          have HQ := Lib.hid (decide_eq_false hin)
          have ck := HB1.out.2.2.cell (i := 0) rfl
          have hK : ∀ w', Below wr.heap.size wr w' → w'.cell? ⟨Bk, 0, none⟩ = some (.func (.func 48) #[] #[.pointer (some ⟨Bm, 0, none⟩), .pointer (some ⟨Bt, 0, none⟩), .pointer (some ⟨Bk, 0, none⟩)]) := fun w' hB => (hB.cell (p := ⟨Bk, 0, none⟩) HB1.out.2.2.lt).trans ck
          have hcap := q1.out.cap
          have hmax := q1.out.max
          unfold maxLen at hmax
          have Hinv := Lib.hid (fun w' (hB : Below wr.heap.size wr w') => HI.out _ _ _ hinv.out hB)
          have HK0 := Lib.hid (fun w' (hB : Below wr.heap.size wr w') => hkp.out.below hB)
          have hml := Lib.hid (show (b ++ [(j : Int)]).length = m + 1 by rw [List.length_append, hl.out]; rfl)
          clear hin hR ck
          cases q
          all_goals
            go_wp2_with fail
            go_region_held3 (fun w' => w'.cell? ⟨Bk, 0, none⟩ = some (.func (.func 48) #[] #[.pointer (some ⟨Bm, 0, none⟩), .pointer (some ⟨Bt, 0, none⟩), .pointer (some ⟨Bk, 0, none⟩)]))
              (first
                | exact (((HB1.out.below B5).kept hk6 S1.out S2.out S3.out).2.2.cell (i := 0) rfl)
                | exact hK _ B5
                | exact hK _ (B4.alloc B4.size _)
                | exact hK _ B4
                | exact hK _ (B3.alloc B3.size _)
                | exact hK _ B3
                | exact hK _ (Below.refl _ _)
                | exact hK _ (Below.refl _ _).drew)
              (first
                | (go_at_call 49; with_reducible refine (contains_ints A m c b j false _ (by first | exact q1.out | exact q1.out.drew) HQ.out).mono ?_; rintro e w3 ⟨rfl, hb3⟩; have B3 : Below wr.heap.size wr w3 := (by first | exact hb3 | exact ((Below.refl _ _).drew).trans (hb3.mono (Nat.le_refl _))))
                | (go_at_call 38; refine (clone_ints A m c b _ (by first | exact q1.out.below B3 | exact (q1.out.below B3).alloc _) H0.out (by omega)).mono ?_; rintro e w4 ⟨D4, d4, rfl, o4, hb4⟩; have B4 : Below wr.heap.size wr w4 := (by first | exact B3.trans (hb4.mono B3.size) | exact (B3.alloc B3.size _).trans (hb4.mono (Nat.le_trans B3.size (by simp)))); (try (have nw4 := news_belowI hb4 (by simp) (cell_oneI w3 (j : Int) 3))))
                | (refine step_ownG (by rfl) (.tmp 25) (.tmp 27) 26 rfl _ 3 inf _ 1 8 Try.underlying26 hinf iz0 iz1 iz2 rfl (by decide) _ _ _ rfl (own_below o4.1 ((Below.refl _ _).alloc (Nat.le_refl _) _)) _ 1 1 ([(j : Int)].flatMap icells) rfl rfl (cell_oneI w4 (j : Int) 3) (icells_all_one _) (by unfold maxLen; omega) (by omega) (Nat.le_trans hb4.size (by simp)) ?_; intro v5 w5 hown5 hg5 hn5; obtain ⟨g5, d5, rfl, r5, hg5'⟩ := own_pushI o4.2 hown5 hml.out (fun e => by have := (hn5.1 e).2; omega); have B5 : Below wr.heap.size wr w5 := (B4.alloc B4.size _).grown hg5 (Nat.le_trans B4.size (by simp)) (fun k e => Nat.le_trans B3.size (o4.1.lt k e).1); clear hown5 hn5)
                | (refine step_ownG (by rfl) (.tmp 25) (.tmp 27) 26 rfl _ 3 inf _ 1 8 Try.underlying26 hinf iz0 iz1 iz2 rfl (by decide) _ _ _ rfl o4.1 _ 1 1 ([(j : Int)].flatMap icells) rfl rfl nw4 (icells_all_one _) (by unfold maxLen; omega) (by omega) hb4.size ?_; intro v5 w5 hown5 hg5 hn5; obtain ⟨g5, d5, rfl, r5, hg5'⟩ := own_pushI o4.2 hown5 hml.out (fun e => by have := (hn5.1 e).2; omega); have B5 : Below wr.heap.size wr w5 := B4.grown hg5 B4.size (fun k e => Nat.le_trans B3.size (Nat.le_trans (by simp) (o4.1.lt k e).1)); clear hown5 hn5)
                | (go_at_call 48; refine (HM.out _ (m + 1) d5 w5 (by omega) r5 hpj.out (fun e => by omega) (fun g off e _ => by injection e with e; injection e with e1 _; have := B3.size; first | omega | (simp at hg5'; omega)) (Hinv.out _ B5) (HB1.out.below B5)).mono ?_; rintro e w6 hp6; obtain ⟨rfl, hi6, hk6⟩ := hp6.opn; clear hp6))
            all_goals
              have HI6 := Lib.hid hi6
              have HK6 := Lib.hid ((HK0.out _ B5).trans hk6)
              clear hi6 hk6
              first
              | (go_wp2
                 go_ret
                 obtain ⟨M, hM⟩ := HE.out
                 have hfin : foldO step s (allO n (k + 1) b) = (t, false) := by rw [hM, foldO_stop (by rw [HN.out, HF.out]), HN.out, HF.out]
                 rw [hfin]
                 exact ⟨rfl, HI6.out, HK6.out⟩)
              | (go_wp2
                 go_roundw
                 case rel => exact ⟨j + 1, by go_num, by omega, Lib.hid (by rw [HN.out, HF.out]), Lib.hid (by rw [HN.out, HF.out]; exact HI6.out), HK6⟩
                 case measure => simp [intOf]; omega)
      · have hjn' : j = n := by omega
        subst hjn'
        rw [allTo_end] at hgo hinv
        have hpost := Lib.hid (MorePost.mk hgo.out hinv.out hkp.out)
        go_wp2
        go_ret
        exact hpost.out

end Go.Proofs.Ytcgjifklapaeeaa
