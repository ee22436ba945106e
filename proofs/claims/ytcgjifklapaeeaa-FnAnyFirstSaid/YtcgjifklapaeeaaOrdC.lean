/- The contracts of orders with CountOrders$1 as its listener, and of CountOrders, of the program. No condition of CountOrders. -/
import Derived.Test.YtcgjifklapaeeaaMoreC
namespace Go.Proofs.Ytcgjifklapaeeaa
open Go.RowKit
set_option linter.unusedVariables false

theorem preOrd_none (n : Nat) : preOrd n [] := preOrd_nil n
theorem rdI_none (w : World) : RdI w none 0 0 [] := Rd.nil (by unfold maxLen; omega)

set_option maxRecDepth 100000 in
set_option maxHeartbeats 3200000 in
theorem ordersC_any {σ : Type} (step : σ → List Int → σ × Bool) (Inv : σ → World → Prop) (S : Nat → Prop) (n P1 P2 : Nat) (hn : n ≤ 5) (hT : TellC step Inv S n P1 P2)
    (hI : ∀ s W W', Inv s W → Below W.heap.size W W' → Inv s W') (s : σ) (W : World) (hS : ∀ i, S i → i < W.heap.size) (hs : Inv s W) :
    Calls Try.prog 31 #[.int .i64 (n : Int), .func (.func 32) #[] #[.pointer (some ⟨P1, 0, none⟩), .pointer (some ⟨P2, 0, none⟩)]] W
      fun e W' => e = .returned (.tuple #[]) ∧ Inv (foldO step s (allO n n [])).1 W' ∧ Kept S W W' := by
  have hbW := ((((Below.refl W.heap.size W).alloc (Nat.le_refl _) (.cells #[.int .i64 (n : Int)] 3)).alloc (by simp) (.cells #[.func (.func 32) #[] #[.pointer (some ⟨P1, 0, none⟩), .pointer (some ⟨P2, 0, none⟩)]] 45)).alloc (by simp; omega) (.cells #[.func (.func 48) #[] #[.pointer (some ⟨W.heap.size, 0, none⟩), .pointer (some ⟨W.heap.size + 1, 0, none⟩), .pointer (some ⟨W.heap.size + 1 + 1, 0, none⟩)]] 45))
  have hbx : BoxC (((W.alloc (.cells #[.int .i64 (n : Int)] 3)).alloc (.cells #[.func (.func 32) #[] #[.pointer (some ⟨P1, 0, none⟩), .pointer (some ⟨P2, 0, none⟩)]] 45)).alloc (.cells #[.func (.func 48) #[] #[.pointer (some ⟨W.heap.size, 0, none⟩), .pointer (some ⟨W.heap.size + 1, 0, none⟩), .pointer (some ⟨W.heap.size + 1 + 1, 0, none⟩)]] 45)) n W.heap.size (W.heap.size + 1) (W.heap.size + 1 + 1) P1 P2 := by
    refine ⟨((Blk.new W _ _).alloc _).alloc _, ?_, ?_⟩
    · have := (Blk.new (W.alloc (.cells #[.int .i64 (n : Int)] 3)) 45 #[.func (.func 32) #[] #[.pointer (some ⟨P1, 0, none⟩), .pointer (some ⟨P2, 0, none⟩)]]).alloc (.cells #[.func (.func 48) #[] #[.pointer (some ⟨W.heap.size, 0, none⟩), .pointer (some ⟨W.heap.size + 1, 0, none⟩), .pointer (some ⟨W.heap.size + 1 + 1, 0, none⟩)]] 45)
      simpa using this
    · have := Blk.new ((W.alloc (.cells #[.int .i64 (n : Int)] 3)).alloc (.cells #[.func (.func 32) #[] #[.pointer (some ⟨P1, 0, none⟩), .pointer (some ⟨P2, 0, none⟩)]] 45)) 45 #[.func (.func 48) #[] #[.pointer (some ⟨W.heap.size, 0, none⟩), .pointer (some ⟨W.heap.size + 1, 0, none⟩), .pointer (some ⟨W.heap.size + 1 + 1, 0, none⟩)]]
      simpa using this
  have HM := Lib.hid (moreC_any step Inv S n P1 P2 W.heap.size (W.heap.size + 1) (W.heap.size + 1 + 1) hn hT hI hS (by omega) (by omega) n [] s none 0 0 _ (by omega) (rdI_none _) (preOrd_none n) (fun _ => ⟨rfl, rfl⟩) (fun g off e _ => by cases e) (hI _ _ _ hs hbW) hbx)
  have HK := Lib.hid (Kept.of_below (S := S) hbW)
  generalize foldO step s (allO n n []) = R at *
  have hmf : ∀ (fn : Fn) (first cap : Array Value) (w : World), (Instr.makeFunc fn first cap).run Try.prog w = .ok (.func fn first cap) w := fun _ _ _ _ => rfl
  have hsf := fun (a : Addr) (c : Array Value) (w : World) => run_store Try.prog w a (.func (.func 48) #[] c) .plain rfl
  clear hbW hbx hT hI hS hs
  go_enter Try.func31, Try.ntmps31
  go_wp2_with fail
  refine HM.out.mono ?_
  rintro e w1 ⟨rfl, hi1, hk1⟩
  have HI1 := Lib.hid hi1
  have HK1 := Lib.hid (HK.out.trans hk1)
  clear hi1 hk1
  go_wp2
  go_end0
  exact ⟨rfl, HI1.out, HK1.out⟩

/-- counting in the machine's own sums -/
def cntStepW (xs : List T) (s : Int) (o : List Int) : Int × Bool := (if okO xs o = true then wrap64 (s + 1) else s, true)
theorem foldO_cntW (xs : List T) : ∀ (L : List (List Int)) (s : Int), 0 ≤ s → s + L.length ≤ 1000000 → (foldO (cntStepW xs) s L).1 = s + (L.countP (okO xs) : Int) := by
  intro L
  induction L with
  | nil => intro s h0 h1; simp [foldO]
  | cons o L ih =>
    intro s h0 h1
    have h2 : ((o :: L).length : Int) = (L.length : Int) + 1 := by rw [List.length_cons]; omega
    rw [h2] at h1
    have e : foldO (cntStepW xs) s (o :: L) = foldO (cntStepW xs) (cntStepW xs s o).1 L := by simp [foldO, cntStepW]
    rw [e]
    cases hq : okO xs o
    · have e2 : (cntStepW xs s o).1 = s := by simp [cntStepW, hq]
      rw [e2, ih s h0 (by omega), List.countP_cons_of_neg (by simp [hq])]
    · have e2 : (cntStepW xs s o).1 = s + 1 := by
        simp only [cntStepW, hq, if_true]
        exact IntWalk.wrap64_in _ ⟨by omega, by omega⟩
      rw [e2, ih (s + 1) (by omega) (by omega), List.countP_cons_of_pos (by simp [hq])]
      omega

/-- the boxes of CountOrders: the list, the count -/
def CInv (G1 G2 : Nat) (A : Option Addr) (n c : Nat) (xs : List T) (s : Int) (W : World) : Prop :=
  Blk W G1 23 #[.slice A n c] ∧ RdT W A n c xs ∧ Blk W G2 3 #[.int .i64 s]
theorem CInv.below {G1 G2 : Nat} {A : Option Addr} {n c : Nat} {xs : List T} {s : Int} {W W' : World} (h : CInv G1 G2 A n c xs s W) (hb : Below W.heap.size W W') : CInv G1 G2 A n c xs s W' :=
  ⟨h.1.below hb, h.2.1.below hb, h.2.2.below hb⟩

set_option maxRecDepth 100000 in
set_option maxHeartbeats 3200000 in
theorem count_tell (G1 G2 : Nat) (A : Option Addr) (n c : Nat) (xs : List T) (hs : svB xs = true) (h12 : G1 ≠ G2) (hA : ∀ b off, A = some ⟨b, off, none⟩ → 0 < n → b ≠ G2) :
    TellC (cntStepW xs) (CInv G1 G2 A n c xs) (fun i => i = G2) n G1 G2 := by
  intro s o A' c' W hinv h' ho h0
  obtain ⟨b1, rd, b2⟩ := hinv
  have hord : ordB xs o = true := by rw [ordB_of rd.len hs]; exact ho
  have HP := Lib.hid (putV_yes hord)
  have HO := Lib.hid hord
  have c1 := b1.cell (i := 0) rfl
  have B1 := Lib.hid b1
  have B2 := Lib.hid b2
  have RD := Lib.hid rd
  have RI := Lib.hid h'
  have hz0 := Below.refl W.heap.size W
  have H12 := Lib.hid h12
  have HA := Lib.hid hA
  clear b1 b2 rd h' ho h0 hord hs h12 hA
  go_enter Try.func32, Try.ntmps32
  go_wp2_with fail
  refine (putOrder_impl A A' n c n c' xs o W RD.out RI.out).mono ?_
  rw [HO.out, HP.out]
  rintro e w1 ⟨D, k, d, rfl, o1, hz1⟩
  have r1 := Lib.hid o1.rdS
  have HB := Lib.hid (fun w h => holdsBoth_impl D k d (putL xs o) w h)
  rw [show bothB (putL xs o) = okO xs o from rfl] at HB
  clear o1 c1
  cases hq : okO xs o
  · rw [hq] at HB
    have HE := Lib.hid (show cntStepW xs s o = (s, true) by simp [cntStepW, hq])
    clear hq
    go_wp2_with fail
    refine (HB.out w1 r1.out).mono ?_
    rintro e w2 ⟨rfl, hb2⟩
    have hz2 := hz1.trans (hb2.mono hz1.size)
    go_wp2
    go_ret
    rw [HE.out]
    exact ⟨rfl, ⟨B1.out.below hz2, RD.out.below hz2, B2.out.below hz2⟩, Kept.of_below hz2⟩
  · rw [hq] at HB
    have HE := Lib.hid (show cntStepW xs s o = (wrap64 (s + 1), true) by simp [cntStepW, hq])
    clear hq
    go_wp2_with fail
    refine (HB.out w1 r1.out).mono ?_
    rintro e w2 ⟨rfl, hb2⟩
    have hz2 := hz1.trans (hb2.mono hz1.size)
    have b2 := Lib.hid (B2.out.below hz2)
    have c2 := b2.out.cell (i := 0) rfl
    have f2 := b2.out.frozen 0
    have HK := Lib.hid ((Kept.of_below (S := fun i => i = G2) hz2).set_ (p := ⟨G2, 0, none⟩) rfl (.int .i64 (wrap64 (s + 1))))
    have N1 := Lib.hid ((B1.out.below hz2).far (p := ⟨G2, 0, none⟩) H12.out (.int .i64 (wrap64 (s + 1))))
    have N2 := Lib.hid (show Blk (w2.setCell ⟨G2, 0, none⟩ (.int .i64 (wrap64 (s + 1)))) G2 3 #[.int .i64 (wrap64 (s + 1))] from b2.out.set_ 0 (.int .i64 (wrap64 (s + 1))))
    have N3 := Lib.hid (RD.out.kept HK.out HA.out)
    clear hb2 b2
    go_wp2
    go_ret
    rw [HE.out]
    exact ⟨rfl, ⟨N1.out, N3.out, N2.out⟩, HK.out⟩

set_option maxRecDepth 100000 in
set_option maxHeartbeats 3200000 in
theorem countOrders_impl (A : Option Addr) (n c : Nat) (xs : List T) (w : World) (h : RdT w A n c xs) :
    Calls Try.prog 11 #[.slice A n c] w fun e w' => e = .returned (.int .i64 (cntV xs : Int)) ∧ Below w.heap.size w w' := by
  have q0 := Lib.hid (h.alloc (.cells #[.slice A n c] 23))
  have b0 := Lib.hid (Blk.new w 23 #[.slice A n c])
  have hz0 := (Below.refl w.heap.size w).alloc (Nat.le_refl _) (.cells #[.slice A n c] 23)
  have c0 := b0.out.cell (i := 0) rfl
  have hmf : ∀ (fn : Fn) (first cap : Array Value) (w : World), (Instr.makeFunc fn first cap).run Try.prog w = .ok (.func fn first cap) w := fun _ _ _ _ => rfl
  cases hs : svB xs
  · have Hs := Lib.hid hs
    have HN := Lib.hid (cntV_no hs)
    clear h hs
    go_enter Try.func11, Try.ntmps11
    go_wp2_with fail
    refine (setValid_impl A n c xs _ q0.out).mono ?_
    rw [Hs.out]
    rintro e w1 ⟨rfl, hb1⟩
    have hz1 := hz0.trans (hb1.mono hz0.size)
    clear hb1
    go_wp2
    go_ret
    exact ⟨ret_int (by rw [HN.out]; rfl), hz1⟩
  · have hn5 : n ≤ 5 := by have := (sv_all hs).1; rw [h.len] at this; exact this
    have Hs := Lib.hid hs
    have HV := Lib.hid (show (foldO (cntStepW xs) 0 (allO n n [])).1 = (cntV xs : Int) by
      have hpow := Nat.le_trans (allO_le n n []) (pow5_le hn5 hn5)
      rw [foldO_cntW xs _ 0 (Int.le_refl _) (by omega), cntV_yes hs h.len, Int.zero_add])
    have HA := Lib.hid (show ∀ b off, A = some ⟨b, off, none⟩ → 0 < n → b < w.heap.size from fun b off e h0 => by
      obtain ⟨b', off', x, hA, _, hlt, _⟩ := h.taskAt h0
      rw [e] at hA; injection hA with hA; injection hA with hA1 hA2
      omega)
    clear h hs
    go_enter Try.func11, Try.ntmps11
    go_wp2_with fail
    refine (setValid_impl A n c xs _ q0.out).mono ?_
    rw [Hs.out]
    rintro e w1 ⟨rfl, hb1⟩
    have hz1 := hz0.trans (hb1.mono hz0.size)
    replace q0 := Lib.hid (q0.out.below hb1)
    replace b0 := Lib.hid (b0.out.below hb1)
    clear hb1
    have c1 := b0.out.cell (i := 0) rfl
    have hlt1 : w.heap.size < w1.heap.size := b0.out.lt
    have hC := Lib.hid (show CInv w.heap.size w1.heap.size A n c xs 0 (w1.alloc (.cells #[.int .i64 0] 3)) from ⟨b0.out.alloc _, q0.out.alloc _, Blk.new w1 _ _⟩)
    have HM := Lib.hid (ordersC_any (cntStepW xs) (CInv w.heap.size w1.heap.size A n c xs) (fun i => i = w1.heap.size) n w.heap.size w1.heap.size hn5 (count_tell w.heap.size w1.heap.size A n c xs Hs.out (by omega) (fun b off e h0 => by have := HA.out b off e h0; omega)) (fun s W W' h hb => h.below hb) 0 _ (fun i e => by rw [e]; simp) hC.out)
    rw [HV.out] at HM
    have hz1a := hz1.alloc hz1.size (.cells #[.int .i64 0] 3)
    clear hC c0
    go_wp2_with fail
    refine HM.out.mono ?_
    rintro e w2 ⟨rfl, hi2, hk2⟩
    have hz2 := hz1a.trans (hk2.to_below hz1a.size (fun i e => by rw [e]; omega))
    have c2 := hi2.2.2.cell (i := 0) rfl
    clear hi2 hk2 c1
    go_wp2
    go_ret
    exact ⟨rfl, hz2⟩

end Go.Proofs.Ytcgjifklapaeeaa
