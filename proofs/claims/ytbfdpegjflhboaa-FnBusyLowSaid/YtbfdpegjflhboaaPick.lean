/- The contracts of the reader of drawn bytes: pick, num, l11Open. Conditions: fewer than 10^6 bytes have been picked before. -/
import Derived.Test.YtbfdpegjflhboaaChecked
import Derived.Test.YtbfdpegjflhboaaOwn
import Derived.Deep.DeepCutAuto
import Derived.Laws.BitsAllLaws
import Derived.Laws.BitsLemmas
namespace Go.Proofs.Ytbfdpegjflhboaa
open Go.RowKit
set_option linter.unusedVariables false

/-- Block R is a reader: its bytes, and how many have been picked. -/
structure Rdr (w : World) (R : Nat) (A : Option Addr) (n c : Nat) (bs : List UInt8) (p : Nat) : Prop where
  r0 : w.cell? ⟨R, 0, none⟩ = some (.slice A n c)
  r1 : w.cell? ⟨R, 1, none⟩ = some (.int .i64 p)
  fz : w.frozen? ⟨R, 1, none⟩ = false
  by_ : RdB w A n c bs
  small : n ≤ 2000
  apart : ∀ b off, A = some ⟨b, off, none⟩ → 0 < n → b ≠ R

theorem Rdr.lt {w : World} {R : Nat} {A : Option Addr} {n c : Nat} {bs : List UInt8} {p : Nat} (h : Rdr w R A n c bs p) : R < w.heap.size := lt_of_cell h.r0

theorem Rdr.byte {w : World} {R : Nat} {A : Option Addr} {n c : Nat} {bs : List UInt8} {p : Nat} (h : Rdr w R A n c bs p) {i : Nat} (hi : i < n) : ∃ b off u, A = some ⟨b, off, none⟩ ∧ b ≠ R ∧ b < w.heap.size ∧ u < 256 ∧ w.cell? ⟨b, off + i, none⟩ = some (.int .u8 (u : Nat)) := by
  obtain ⟨b, off, e, hc⟩ := h.by_.cells (by omega)
  have hl : i < bs.length := by rw [h.by_.len]; exact hi
  have h0 := hc i _ (List.getElem?_eq_getElem hl) 0 _ rfl
  rw [Nat.mul_one, Nat.add_zero] at h0
  exact ⟨b, off, (bs[i]).toNat, e, h.apart b off e (by omega), lt_of_cell h0, UInt8.toNat_lt _, h0⟩

/-- The reader behind a pick: only its count has turned. -/
theorem Rdr.picked {w : World} {R : Nat} {A : Option Addr} {n c : Nat} {bs : List UInt8} {p : Nat} (h : Rdr w R A n c bs p) (q : Nat) :
    Rdr (w.setCell ⟨R, 1, none⟩ (.int .i64 q)) R A n c bs q ∧ w.grownBy (w.setCell ⟨R, 1, none⟩ (.int .i64 q)) (some R) := by
  refine ⟨⟨?_, ?_, ?_, ?_, h.small, h.apart⟩, ⟨rfl, rfl, rfl, by simp [World.setCell], fun k hk hne => heap_setCell_other w ⟨R, 1, none⟩ k _ (fun e => hne (by rw [e]))⟩⟩
  · rw [World.cell?_setCell_other _ _ _ _ (by simp)]; exact h.r0
  · exact World.cell?_setCell_same _ _ _ h.r1
  · rw [World.frozen?_setCell]; exact h.fz
  · refine ⟨h.by_.len, h.by_.cap, h.by_.max, fun h0 => ?_⟩
    obtain ⟨b, off, e, hc⟩ := h.by_.cells h0
    refine ⟨b, off, e, fun i x hx j u hu => ?_⟩
    rw [World.cell?_setCell_other _ _ _ _ (by intro e'; injection e' with e1; exact h.apart b off e h0 e1.symm)]
    exact hc i x hx j u hu

theorem Rdr.drewN {w : World} {R : Nat} {A : Option Addr} {n c : Nat} {bs : List UInt8} {p : Nat} (h : Rdr w R A n c bs p) (k : Nat) : Rdr (w.drewN k) R A n c bs p :=
  ⟨h.r0, h.r1, h.fz, h.by_.drewN k, h.small, h.apart⟩
theorem grown_drewN {w w' : World} {row : Option Nat} (h : w.grownBy w' row) (k : Nat) : w.grownBy (w'.drewN k) row := ⟨h.os, h.tape, h.output, h.size, h.block⟩

theorem ofInt_i64 (a : Nat) (ha : a < 9223372036854775808) : (BitVec.ofInt 64 (a : Int)).toNat = a := by
  rw [BitVec.ofInt_natCast, BitVec.toNat_ofNat]; exact Nat.mod_eq_of_lt (by omega)
theorem xor_nat (a b : Nat) (ha : a < 9223372036854775808) (hb : b < 9223372036854775808) : bits .xor .i64 (a : Int) (b : Int) = ((a ^^^ b : Nat) : Int) := by
  have hx : a ^^^ b < 2 ^ 63 := Nat.xor_lt_two_pow (by omega) (by omega)
  show IntKind.i64.wrap ((BitVec.ofInt 64 (a : Int) ^^^ BitVec.ofInt 64 (b : Int)).toNat : Int) = _
  rw [BitVec.toNat_xor, ofInt_i64 a ha, ofInt_i64 b hb, IntKind.wrap_i64]
  omega

/-- what pick hands back -/
def Picked (m q : Int) : Prop := 0 ≤ q ∧ (1 ≤ m → q < m) ∧ (m < 1 → q = 0)

set_option maxRecDepth 100000 in
set_option maxHeartbeats 3200000 in
theorem pick_any (R : Nat) (A : Option Addr) (n c : Nat) (bs : List UInt8) (p : Nat) (m : Int) (w : World) (h : Rdr w R A n c bs p) (hp : p < 1000000) :
    Calls Try.prog 61 #[.pointer (some ⟨R, 0, none⟩), .int .i64 m] w fun e w' => ∃ q, e = .returned (.int .i64 q) ∧ Picked m q ∧ Rdr w' R A n c bs (p + 1) ∧ w.grownBy w' (some R) := by
  obtain ⟨hr, hg⟩ := h.picked (p + 1)
  have Hr := Lib.hid hr
  have Hg := Lib.hid hg
  have c0 := h.r0
  have c1 := h.r1
  have cf := h.fz
  have d0 := hr.r0
  have d1 := hr.r1
  have hn := h.small
  have ec : ((p + 1 : Nat) : Int) = (p : Int) + 1 := by omega
  rw [ec] at d0 d1
  by_cases hm1 : m < 1
  · have Hq := Lib.hid (show Picked m 0 from ⟨by omega, by omega, fun _ => rfl⟩)
    clear hr hg h ec
    go_enter Try.func61, Try.ntmps61
    go_wp2
    go_ret
    exact ⟨_, rfl, Hq.out, Hr.out, Hg.out⟩
  · have hm0 : 1 ≤ m := by omega
    by_cases hn0 : n = 0
    · subst hn0
      have Hq := Lib.hid (show Picked m 0 from ⟨by omega, by omega, fun _ => rfl⟩)
      clear hr hg h ec
      go_enter Try.func61, Try.ntmps61
      go_wp2
      go_ret
      exact ⟨_, rfl, Hq.out, Hr.out, Hg.out⟩
    · have hne : ((n : Int) == 0) = false := by simp; omega
      by_cases hlt : p < n
      · obtain ⟨b, off, u, rfl, hbR, hbl, hu, cu⟩ := hr.byte hlt
        rw [ec] at cu
        have Hq := Lib.hid (show Picked m ((u : Int) % m) from ⟨Int.emod_nonneg _ (by omega), fun _ => Int.emod_lt_of_pos _ (by omega), fun e => absurd e hm1⟩)
        have hu0 : (0 : Int) ≤ (u : Int) := by omega
        have hu1 : (u : Int) < 256 := by omega
        clear hr hg h hn0 ec
        go_enter Try.func61, Try.ntmps61
        go_wp2
        go_ret
        exact ⟨_, rfl, Hq.out, Hr.out, Hg.out⟩
      · have e0 : (0 : Int) ≤ (p : Int) % (n : Int) := Int.emod_nonneg _ (by omega)
        have e1 : (p : Int) % (n : Int) < (n : Int) := Int.emod_lt_of_pos _ (by omega)
        have e2 : (0 : Int) ≤ ((p : Int) * 7 + 3) % (n : Int) := Int.emod_nonneg _ (by omega)
        have e3 : ((p : Int) * 7 + 3) % (n : Int) < (n : Int) := Int.emod_lt_of_pos _ (by omega)
        have e4 : (0 : Int) ≤ (p : Int) / (n : Int) := Int.ediv_nonneg (by omega) (by omega)
        have e5 : (p : Int) / (n : Int) ≤ (p : Int) := Int.ediv_le_self _ (by omega)
        obtain ⟨b, off, u, hA, hbR, hbl, hu, cu⟩ := hr.byte (i := p % n) (Nat.mod_lt _ (by omega))
        obtain ⟨b', off', u', hA', hbR', hbl', hu', cu'⟩ := hr.byte (i := (p * 7 + 3) % n) (Nat.mod_lt _ (by omega))
        rw [ec] at cu cu'
        rw [hA] at hA'
        injection hA' with hA'
        injection hA' with hb2 ho2
        subst hb2 ho2
        subst hA
        have hu0 : (0 : Int) ≤ (u : Int) := by omega
        have hu1 : (u : Int) < 256 := by omega
        have hu0' : (0 : Int) ≤ (u' : Int) := by omega
        have hu1' : (u' : Int) < 256 := by omega
        clear hr hg h hn0 ec
        go_enter Try.func61, Try.ntmps61
        go_upto_region 7 with fail
        go_cut [6] (fun s6 wx => ∃ X : Nat, s6 = .int .i64 (X : Int) ∧ X < 1000000000000 ∧ ∃ nq, wx = (w.setCell ⟨R, 1, none⟩ (.int .i64 ((p : Int) + 1))).drewN nq)
        case first =>
          go_quiet (fail)
          go_wp2_with fail
          go_meet
          obtain ⟨X, hX⟩ := Int.eq_ofNat_of_zero_le (show (0 : Int) ≤ (u : Int) * 131 + (u' : Int) * 1117 + (p : Int) * 29 + (p : Int) / (n : Int) * 53 by omega)
          exact ⟨X, by rw [hX], by omega, _, rfl⟩
        case rest =>
          obtain ⟨X, rfl, hX, nq, rfl⟩ := hcut
          have hxor : bits BinOp.xor IntKind.i64 (X : Int) ((X : Int) / 64) = ((X ^^^ (X / 64) : Nat) : Int) := by
            have : ((X : Int) / 64) = ((X / 64 : Nat) : Int) := by omega
            rw [this]
            exact xor_nat X (X / 64) (by omega) (by omega)
          generalize (X ^^^ (X / 64)) = Y at hxor
          have Hq := Lib.hid (show Picked m ((Y : Int) % m) from ⟨Int.emod_nonneg _ (by omega), fun _ => Int.emod_lt_of_pos _ (by omega), fun e => absurd e hm1⟩)
          have hY : (0 : Int) ≤ (Y : Int) := by omega
          have hX0 : (0 : Int) ≤ (X : Int) := by omega
          go_wp2
          go_ret
          exact ⟨_, rfl, Hq.out, Rdr.drewN Hr.out nq, grown_drewN Hg.out nq⟩

/-- the reader is kept where only new blocks turn, or blocks other than its own and its bytes' -/
theorem Rdr.below {w w' : World} {R : Nat} {A : Option Addr} {n c : Nat} {bs : List UInt8} {p : Nat} (h : Rdr w R A n c bs p) (hb : Below w.heap.size w w') : Rdr w' R A n c bs p :=
  ⟨(hb.cell (p := ⟨R, 0, none⟩) h.lt).trans h.r0, (hb.cell (p := ⟨R, 1, none⟩) h.lt).trans h.r1, (hb.frozen (p := ⟨R, 1, none⟩) h.lt).trans h.fz, h.by_.below hb, h.small, h.apart⟩

set_option maxHeartbeats 800000 in
theorem num_any (R : Nat) (A : Option Addr) (n c : Nat) (bs : List UInt8) (p : Nat) (B : Option Addr) (m d : Nat) (xs : List Int) (w : World) (h : Rdr w R A n c bs p) (hp : p < 1000000) (hx : RdI w B m d xs) (hm0 : 0 < m) (hm : m < 1000) (hR : ∀ b off, B = some ⟨b, off, none⟩ → b ≠ R) :
    Calls Try.prog 60 #[.pointer (some ⟨R, 0, none⟩), .slice B m d] w fun e w' => ∃ q, e = .returned (.int .i64 q) ∧ q ∈ xs ∧ Rdr w' R A n c bs (p + 1) ∧ w.grownBy w' (some R) := by
  have hP := Lib.hid (pick_any R A n c bs p (m : Int) w h hp)
  have Hx := Lib.hid hx
  clear h hx
  go_enter Try.func60, Try.ntmps60
  go_wp2_with fail
  refine hP.out.mono ?_
  rintro e w1 ⟨q, rfl, hq, hr, hg⟩
  obtain ⟨k, hk⟩ := Int.eq_ofNat_of_zero_le hq.1
  have hkm : k < m := by have := hq.2.1 (by omega); omega
  subst hk
  obtain ⟨b, off, x, rfl, hxk, hb, c0⟩ := Hx.out.intAt hkm
  have c1 : w1.cell? ⟨b, off + k, none⟩ = some (.int .i64 x) := hg.cell c0 (by simp only [ne_eq, Option.some.injEq]; exact hR b off rfl)
  have hmem := Lib.hid (List.mem_of_getElem? hxk)
  have Hr := Lib.hid hr
  have Hg := Lib.hid hg
  have i0 : (0 : Int) ≤ (k : Int) := by omega
  have i1 : (k : Int) < (m : Int) := by omega
  clear hr hg hxk hq c0
  go_wp2
  go_ret
  exact ⟨_, rfl, hmem.out, Hr.out, Hg.out⟩

theorem rdr_new {w : World} {A : Option Addr} {n c : Nat} {bs : List UInt8} (h : RdB w A n c bs) (hn : n ≤ 2000) : Rdr (w.alloc (.cells #[.slice A n c, .int .i64 0] 57)) w.heap.size A n c bs 0 :=
  ⟨World.cell?_alloc_at _ _ _ _ rfl, World.cell?_alloc_at _ _ _ _ rfl, World.frozen?_alloc_at _ _ _ _ rfl, h.alloc _, hn, fun b off e h0 => by
    obtain ⟨b', off', e', hc⟩ := h.cells h0
    rw [e] at e'
    injection e' with e'
    injection e' with e1
    have hl : 0 < bs.length := by rw [h.len]; exact h0
    have := lt_of_cell (hc 0 _ (List.getElem?_eq_getElem hl) 0 _ rfl)
    omega⟩

set_option maxHeartbeats 800000 in
theorem open_any (A : Option Addr) (n c : Nat) (bs : List UInt8) (w : World) (h : RdB w A n c bs) :
    Calls Try.prog 58 #[.slice A n c] w fun e w' => ∃ (R m : Nat) (bs' : List UInt8), e = .returned (.pointer (some ⟨R, 0, none⟩)) ∧ w.heap.size ≤ R ∧ Rdr w' R A m c bs' 0 ∧ Below w.heap.size w w' := by
  have hm : n ≤ maxLen := Nat.le_trans h.cap h.max
  unfold maxLen at hm
  have hcap := h.cap
  by_cases hn : n ≤ 2000
  · have hr := Lib.hid (rdr_new h hn)
    clear h
    go_enter Try.func58, Try.ntmps58
    go_wp2
    go_ret
    exact ⟨_, _, _, rfl, Nat.le_refl _, hr.out, (Below.refl _ _).alloc (Nat.le_refl _) _⟩
  · have hr := Lib.hid (rdr_new (h.take (m := 2000) (by omega)) (Nat.le_refl _))
    clear h
    go_enter Try.func58, Try.ntmps58
    go_wp2
    go_ret
    exact ⟨_, _, _, rfl, Nat.le_refl _, hr.out, (Below.refl _ _).alloc (Nat.le_refl _) _⟩

end Go.Proofs.Ytbfdpegjflhboaa
