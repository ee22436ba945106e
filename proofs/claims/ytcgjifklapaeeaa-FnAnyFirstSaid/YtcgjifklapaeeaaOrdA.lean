/- The contracts of orders with AnyOrder$1 as its listener, and of AnyOrder, of the program. No condition of AnyOrder. -/
import Derived.Test.YtcgjifklapaeeaaMoreA
import Derived.Test.YtcgjifklapaeeaaOrdC
namespace Go.Proofs.Ytcgjifklapaeeaa
open Go.RowKit
set_option linter.unusedVariables false

set_option maxRecDepth 100000 in
set_option maxHeartbeats 3200000 in
theorem ordersA_any {σ : Type} (step : σ → List Int → σ × Bool) (Inv : σ → World → Prop) (S : Nat → Prop) (n P1 P2 P3 : Nat) (hn : n ≤ 5) (hT : TellA step Inv S n P1 P2 P3)
    (hI : ∀ s W W', Inv s W → Below W.heap.size W W' → Inv s W') (s : σ) (W : World) (hS : ∀ i, S i → i < W.heap.size) (hs : Inv s W) :
    Calls Try.prog 31 #[.int .i64 (n : Int), .func (.func 37) #[] #[.pointer (some ⟨P1, 0, none⟩), .pointer (some ⟨P2, 0, none⟩), .pointer (some ⟨P3, 0, none⟩)]] W
      fun e W' => e = .returned (.tuple #[]) ∧ Inv (foldO step s (allO n n [])).1 W' ∧ Kept S W W' := by
  have hbW := ((((Below.refl W.heap.size W).alloc (Nat.le_refl _) (.cells #[.int .i64 (n : Int)] 3)).alloc (by simp) (.cells #[.func (.func 37) #[] #[.pointer (some ⟨P1, 0, none⟩), .pointer (some ⟨P2, 0, none⟩), .pointer (some ⟨P3, 0, none⟩)]] 45)).alloc (by simp; omega) (.cells #[.func (.func 48) #[] #[.pointer (some ⟨W.heap.size, 0, none⟩), .pointer (some ⟨W.heap.size + 1, 0, none⟩), .pointer (some ⟨W.heap.size + 1 + 1, 0, none⟩)]] 45))
  have hbx : BoxA (((W.alloc (.cells #[.int .i64 (n : Int)] 3)).alloc (.cells #[.func (.func 37) #[] #[.pointer (some ⟨P1, 0, none⟩), .pointer (some ⟨P2, 0, none⟩), .pointer (some ⟨P3, 0, none⟩)]] 45)).alloc (.cells #[.func (.func 48) #[] #[.pointer (some ⟨W.heap.size, 0, none⟩), .pointer (some ⟨W.heap.size + 1, 0, none⟩), .pointer (some ⟨W.heap.size + 1 + 1, 0, none⟩)]] 45)) n W.heap.size (W.heap.size + 1) (W.heap.size + 1 + 1) P1 P2 P3 := by
    refine ⟨((Blk.new W _ _).alloc _).alloc _, ?_, ?_⟩
    · have := (Blk.new (W.alloc (.cells #[.int .i64 (n : Int)] 3)) 45 #[.func (.func 37) #[] #[.pointer (some ⟨P1, 0, none⟩), .pointer (some ⟨P2, 0, none⟩), .pointer (some ⟨P3, 0, none⟩)]]).alloc (.cells #[.func (.func 48) #[] #[.pointer (some ⟨W.heap.size, 0, none⟩), .pointer (some ⟨W.heap.size + 1, 0, none⟩), .pointer (some ⟨W.heap.size + 1 + 1, 0, none⟩)]] 45)
      simpa using this
    · have := Blk.new ((W.alloc (.cells #[.int .i64 (n : Int)] 3)).alloc (.cells #[.func (.func 37) #[] #[.pointer (some ⟨P1, 0, none⟩), .pointer (some ⟨P2, 0, none⟩), .pointer (some ⟨P3, 0, none⟩)]] 45)) 45 #[.func (.func 48) #[] #[.pointer (some ⟨W.heap.size, 0, none⟩), .pointer (some ⟨W.heap.size + 1, 0, none⟩), .pointer (some ⟨W.heap.size + 1 + 1, 0, none⟩)]]
      simpa using this
  have HM := Lib.hid (moreA_any step Inv S n P1 P2 P3 W.heap.size (W.heap.size + 1) (W.heap.size + 1 + 1) hn hT hI hS (by omega) (by omega) n [] s none 0 0 _ (by omega) (rdI_none _) (preOrd_none n) (fun _ => ⟨rfl, rfl⟩) (fun g off e _ => by cases e) (hI _ _ _ hs hbW) hbx)
  have HK := Lib.hid (Kept.of_below (S := S) hbW)
  generalize foldO step s (allO n n []) = R at *
  have hmf : ∀ (fn : Fn) (first cap : Array Value) (w : World), (Instr.makeFunc fn first cap).run Try.prog w = .ok (.func fn first cap) w := fun _ _ _ _ => rfl
  have hsf := fun (a : Addr) (c : Array Value) (w : World) => run_store Try.prog w a (.func (.func 48) #[] c) .plain rfl
  clear hbW hbx hT hI hS hs
  go_enter Try.func31, Try.ntmps31
  go_wp2_with fail
  refine HM.out.mono ?_
  rintro e w1 ⟨rfl, hi1, hk1⟩
  have HI1 := Lib.hid hi1
  have HK1 := Lib.hid (HK.out.trans hk1)
  clear hi1 hk1
  go_wp2
  go_end0
  exact ⟨rfl, HI1.out, HK1.out⟩


/-- the boxes of AnyOrder: the list, what was found, whether; u is the world of the call -/
def AInv (u : World) (G1 G2 G3 : Nat) (A : Option Addr) (n c : Nat) (xs : List T) (s : Option (List Int)) (W : World) : Prop :=
  u.heap.size ≤ W.heap.size ∧ Blk W G1 23 #[.slice A n c] ∧ RdT W A n c xs ∧ Blk W G3 4 #[.bool s.isSome] ∧
    ∃ (D : Option Addr) (k d : Nat), Blk W G2 26 #[.slice D k d] ∧ OwnI u W (.slice D k d) k (s.getD [])
theorem AInv.below {u : World} {G1 G2 G3 : Nat} {A : Option Addr} {n c : Nat} {xs : List T} {s : Option (List Int)} {W W' : World} (h : AInv u G1 G2 G3 A n c xs s W) (hb : Below W.heap.size W W') : AInv u G1 G2 G3 A n c xs s W' := by
  obtain ⟨h0, h1, h2, h3, D, k, d, h4, h5⟩ := h
  exact ⟨Nat.le_trans h0 hb.size, h1.below hb, h2.below hb, h3.below hb, D, k, d, h4.below hb, h5.below5 hb⟩

set_option maxRecDepth 100000 in
set_option maxHeartbeats 3200000 in
theorem any_tell (u : World) (G1 G2 G3 : Nat) (A : Option Addr) (n c : Nat) (xs : List T) (hs : svB xs = true) (h12 : G1 ≠ G2) (h13 : G1 ≠ G3) (h23 : G2 ≠ G3) (hA : ∀ b off, A = some ⟨b, off, none⟩ → 0 < n → b ≠ G2 ∧ b ≠ G3) :
    TellA (anyStep xs) (AInv u G1 G2 G3 A n c xs) (fun i => i = G2 ∨ i = G3) n G1 G2 G3 := by
  intro s o A' c' W hinv h' ho h0
  obtain ⟨hu, b1, rd, b3, D0, k0, d0, b2, ow⟩ := hinv
  have hord : ordB xs o = true := by rw [ordB_of rd.len hs]; exact ho
  have hn5 : n ≤ 5 := by have := (sv_all hs).1; rw [rd.len] at this; exact this
  have HP := Lib.hid (putV_yes hord)
  have HO := Lib.hid hord
  have c1 := b1.cell (i := 0) rfl
  have B1 := Lib.hid b1
  have B2 := Lib.hid b2
  have B3 := Lib.hid b3
  have OW := Lib.hid ow
  have RD := Lib.hid rd
  have RI := Lib.hid h'
  have H0 := Lib.hid h0
  have hz0 := Below.refl W.heap.size W
  have H12 := Lib.hid h12
  have H13 := Lib.hid h13
  have H23 := Lib.hid h23
  have HA := Lib.hid hA
  have hl2 : G2 < W.heap.size := b2.lt
  have hl3 : G3 < W.heap.size := b3.lt
  generalize hsq : s.isSome = sq at *
  have HSQ := Lib.hid hsq
  clear b1 b2 b3 ow rd h' ho h0 hord hs h12 h13 h23 hA hsq
  go_enter Try.func37, Try.ntmps37
  go_wp2_with fail
  refine (putOrder_impl A A' n c n c' xs o W RD.out RI.out).mono ?_
  rw [HO.out, HP.out]
  rintro e w1 ⟨D, k, d, rfl, o1, hz1⟩
  have r1 := Lib.hid o1.rdS
  have HB := Lib.hid (fun w h => holdsBoth_impl D k d (putL xs o) w h)
  rw [show bothB (putL xs o) = okO xs o from rfl] at HB
  clear o1 c1
  cases hq : okO xs o
  · rw [hq] at HB
    have HE := Lib.hid (show anyStep xs s o = (s, !sq) by simp only [anyStep, hq]; rw [← HSQ.out]; cases s <;> rfl)
    clear hq
    go_wp2_with fail
    refine (HB.out w1 r1.out).mono ?_
    rintro e w2 ⟨rfl, hb2⟩
    have hz2 := hz1.trans (hb2.mono hz1.size)
    have c3 := (B3.out.below hz2).cell (i := 0) rfl
    go_wp2
    go_ret
    rw [HE.out]
    exact ⟨rfl, ⟨Nat.le_trans hu hz2.size, B1.out.below hz2, RD.out.below hz2, by rw [HSQ.out]; exact B3.out.below hz2, D0, k0, d0, B2.out.below hz2, OW.out.below5 hz2⟩, Kept.of_below hz2⟩
  · rw [hq] at HB
    have HE := Lib.hid (show anyStep xs s o = (some o, false) by simp [anyStep, hq])
    clear hq
    go_wp2_with fail
    refine (HB.out w1 r1.out).mono ?_
    rintro e w2 ⟨rfl, hb2⟩
    have hz2 := hz1.trans (hb2.mono hz1.size)
    go_wp2_with fail
    refine (clone_ints A' n c' o w2 (RI.out.below hz2) H0.out (by omega)).mono ?_
    rintro e w3 ⟨D3, d3, rfl, o3, hb3⟩
    have hz3 := hz2.trans (hb3.mono hz2.size)
    have b2 := Lib.hid (B2.out.below hz3)
    have b3 := Lib.hid (B3.out.below hz3)
    have c2 := b2.out.cell (i := 0) rfl
    have f2 := b2.out.frozen 0
    have c3 := b3.out.cell (i := 0) rfl
    have f3 := b3.out.frozen 0
    have hrow := fun g (hg : (Value.slice D3 n d3).ownBlock = some g) => (o3.1.lt g hg).1
    have hs2 := hz2.size
    have HK := Lib.hid (((Kept.of_below (S := fun i => i = G2 ∨ i = G3) hz3).set_ (p := ⟨G2, 0, none⟩) (Or.inl rfl) (.slice D3 n d3)).set_ (p := ⟨G3, 0, none⟩) (Or.inr rfl) (.bool true))
    have N1 := Lib.hid (((B1.out.below hz3).far (p := ⟨G2, 0, none⟩) H12.out (.slice D3 n d3)).far (p := ⟨G3, 0, none⟩) H13.out (.bool true))
    have N2 := Lib.hid (show Blk ((w3.setCell ⟨G2, 0, none⟩ (.slice D3 n d3)).setCell ⟨G3, 0, none⟩ (.bool true)) G2 26 #[.slice D3 n d3] from (b2.out.set_ 0 (.slice D3 n d3)).far (p := ⟨G3, 0, none⟩) H23.out (.bool true))
    have N3 := Lib.hid (show Blk ((w3.setCell ⟨G2, 0, none⟩ (.slice D3 n d3)).setCell ⟨G3, 0, none⟩ (.bool true)) G3 4 #[.bool true] from (b3.out.far (p := ⟨G2, 0, none⟩) (Ne.symm H23.out) (.slice D3 n d3)).set_ 0 (.bool true))
    have N4 := Lib.hid (RD.out.kept HK.out (fun b off e h0 hS => by have := HA.out b off e h0; rcases hS with e | e <;> omega))
    have N5 := Lib.hid (((o3.ext5 (w := u) (Nat.le_trans hu hs2)).keep5 (grown_set5 w3 G2 0 (.slice D3 n d3)) (fun e => by have := hrow _ e; omega)).keep5 (grown_set5 _ G3 0 (.bool true)) (fun e => by have := hrow _ e; omega))
    have c3' : (w3.setCell ⟨G2, 0, none⟩ (.slice D3 n d3)).cell? ⟨G3, 0, none⟩ = some (.bool sq) := (b3.out.far (p := ⟨G2, 0, none⟩) (Ne.symm H23.out) (.slice D3 n d3)).cell (i := 0) rfl
    have c3'' : ((w3.setCell ⟨G2, 0, none⟩ (.slice D3 n d3)).setCell ⟨G3, 0, none⟩ (.bool true)).cell? ⟨G3, 0, none⟩ = some (.bool true) := N3.out.cell (i := 0) rfl
    have hsz : u.heap.size ≤ ((w3.setCell ⟨G2, 0, none⟩ (.slice D3 n d3)).setCell ⟨G3, 0, none⟩ (.bool true)).heap.size := Nat.le_trans hu HK.out.size
    have HSZ := Lib.hid hsz
    clear hb2 hb3 b2 b3 hrow o3 hsz
    go_wp2
    go_ret
    rw [HE.out]
    exact ⟨rfl, ⟨HSZ.out, N1.out, N4.out, N3.out, _, _, _, N2.out, N5.out⟩, HK.out⟩

set_option maxRecDepth 100000 in
set_option maxHeartbeats 3200000 in
theorem anyOrder_impl (A : Option Addr) (n c : Nat) (xs : List T) (w : World) (h : RdT w A n c xs) :
    Calls Try.prog 13 #[.slice A n c] w fun e w' => ∃ (D : Option Addr) (k d : Nat), e = .returned (.tuple #[.slice D k d, .bool (anyV xs).isSome]) ∧ OwnI w w' (.slice D k d) k ((anyV xs).getD []) ∧ Below w.heap.size w w' := by
  have q0 := Lib.hid (h.alloc (.cells #[.slice A n c] 23))
  have b0 := Lib.hid (Blk.new w 23 #[.slice A n c])
  have hz0 := (Below.refl w.heap.size w).alloc (Nat.le_refl _) (.cells #[.slice A n c] 23)
  have c0 := b0.out.cell (i := 0) rfl
  have hmf : ∀ (fn : Fn) (first cap : Array Value) (w : World), (Instr.makeFunc fn first cap).run Try.prog w = .ok (.func fn first cap) w := fun _ _ _ _ => rfl
  cases hs : svB xs
  · have Hs := Lib.hid hs
    have HN := Lib.hid (anyV_no hs)
    clear h hs
    go_enter Try.func13, Try.ntmps13
    go_wp2_with fail
    refine (setValid_impl A n c xs _ q0.out).mono ?_
    rw [Hs.out]
    rintro e w1 ⟨rfl, hb1⟩
    have hz1 := hz0.trans (hb1.mono hz0.size)
    clear hb1
    go_wp2
    go_ret2
    exact ⟨_, _, _, by rw [HN.out]; rfl, by rw [HN.out]; exact ⟨World.ownsRow_nil _ _ _ _, rfl⟩, hz1⟩
  · have hn5 : n ≤ 5 := by have := (sv_all hs).1; rw [h.len] at this; exact this
    have Hs := Lib.hid hs
    have HV := Lib.hid (show (foldO (anyStep xs) none (allO n n [])).1 = anyV xs by rw [foldO_any, anyV_yes hs h.len])
    have HA := Lib.hid (show ∀ b off, A = some ⟨b, off, none⟩ → 0 < n → b < w.heap.size from fun b off e h0 => by
      obtain ⟨b', off', x, hA, _, hlt, _⟩ := h.taskAt h0
      rw [e] at hA; injection hA with hA; injection hA with hA1 hA2
      omega)
    obtain ⟨O, hO⟩ : ∃ O, anyV xs = O := ⟨_, rfl⟩
    rw [hO] at HV ⊢
    clear h hs hO
    go_enter Try.func13, Try.ntmps13
    go_wp2_with fail
    refine (setValid_impl A n c xs _ q0.out).mono ?_
    rw [Hs.out]
    rintro e w1 ⟨rfl, hb1⟩
    have hz1 := hz0.trans (hb1.mono hz0.size)
    replace q0 := Lib.hid (q0.out.below hb1)
    replace b0 := Lib.hid (b0.out.below hb1)
    clear hb1
    have c1 := b0.out.cell (i := 0) rfl
    have hlt1 : w.heap.size < w1.heap.size := b0.out.lt
    have hC := Lib.hid (show AInv w w.heap.size w1.heap.size (w1.heap.size + 1) A n c xs none ((w1.alloc (.cells #[.slice none 0 0] 26)).alloc (.cells #[.bool false] 4)) from
      ⟨by simp; omega, (b0.out.alloc _).alloc _, (q0.out.alloc _).alloc _, by simpa using Blk.new (w1.alloc (.cells #[.slice none 0 0] 26)) 4 #[.bool false], _, _, _, (Blk.new w1 _ _).alloc _, ⟨World.ownsRow_nil _ _ _ _, rfl⟩⟩)
    have HM := Lib.hid (ordersA_any (anyStep xs) (AInv w w.heap.size w1.heap.size (w1.heap.size + 1) A n c xs) (fun i => i = w1.heap.size ∨ i = w1.heap.size + 1) n w.heap.size w1.heap.size (w1.heap.size + 1) hn5
      (any_tell w w.heap.size w1.heap.size (w1.heap.size + 1) A n c xs Hs.out (by omega) (by omega) (by omega) (fun b off e h0 => by have := HA.out b off e h0; omega)) (fun s W W' h hb => h.below hb) none _ (fun i e => by rcases e with e | e <;> (rw [e]; simp <;> omega)) hC.out)
    rw [HV.out] at HM
    have hz1a := (hz1.alloc hz1.size (.cells #[.slice none 0 0] 26)).alloc (by simp; omega) (.cells #[.bool false] 4)
    clear hC c0
    go_wp2_with fail
    refine HM.out.mono ?_
    rintro e w2 ⟨rfl, hi2, hk2⟩
    have hz2 := hz1a.trans (hk2.to_below hz1a.size (fun i e => by rcases e with e | e <;> omega))
    obtain ⟨_, _, _, b3, D, k, d, b2, o2⟩ := hi2
    have c2 := b2.cell (i := 0) rfl
    have c3 := b3.cell (i := 0) rfl
    have O2 := Lib.hid o2
    clear hk2 c1 b2 b3 o2
    go_wp2_with fail
    go_quiet (fail)
    go_wp2
    go_ret2
    exact ⟨_, _, _, rfl, O2.out, ⟨hz2.os, hz2.tape, hz2.output, hz2.size, hz2.block⟩⟩

end Go.Proofs.Ytcgjifklapaeeaa
