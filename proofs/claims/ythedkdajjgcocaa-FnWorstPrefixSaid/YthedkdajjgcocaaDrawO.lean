/- The contracts of the drawing of orders: l4Draw, DrawOrderValid, DrawPutOrder. Conditions: at most 2^20 bytes come in. -/
import Derived.Test.YthedkdajjgcocaaDrawS
namespace Go.Proofs.Ythedkdajjgcocaa
open Go.RowKit
set_option linter.unusedVariables false

theorem infoIntD : (Try.prog.info? 3).map (fun i => (i.zero, i.size, i.bytes)) = some (some (.int .i64 0), 1, 8) := by kernel_rfl

/-- an owned list of numbers, in new memory -/
def OwnI (w wc : World) (v : Value) (m : Nat) (xs : List Int) : Prop := wc.ownsRow w.heap.size 3 1 v m (xs.flatMap icells) ∧ xs.length = m
theorem OwnI.grown {w w1 w2 : World} {v : Value} {m : Nat} {xs : List Int} {R : Nat} (h : OwnI w w1 v m xs) (hR : R < w.heap.size) (hg : w1.grownBy w2 (some R)) : OwnI w w2 v m xs :=
  ⟨h.1.kept hg (by
    cases hv : v.ownBlock with
    | none => exact Or.inl rfl
    | some g => right; intro e; injection e with e; have := h.1.lt g hv; omega), h.2⟩
theorem OwnI.alloc {w w1 : World} {v : Value} {m : Nat} {xs : List Int} (h : OwnI w w1 v m xs) (o : Obj) : OwnI w (w1.alloc o) v m xs := ⟨h.1.alloc o, h.2⟩
theorem OwnI.new (w : World) : OwnI w (w.alloc (.cells #[] 3)) (.slice (some ⟨w.heap.size, 0, none⟩) 0 0) 0 [] :=
  ⟨World.ownsRow_lit (size := 1) (e := 3) (base := w.heap.size) w #[] 0 (Nat.le_refl _) (Nat.zero_le _) rfl, rfl⟩
theorem OwnI.form {w w1 : World} {v : Value} {m : Nat} {xs : List Int} (h : OwnI w w1 v m xs) : (v = .slice none 0 0 ∧ m = 0) ∨ ∃ g c, v = .slice (some ⟨g, 0, none⟩) m c ∧ w.heap.size ≤ g := by
  rcases h.1.2 with ⟨hv, h0⟩ | ⟨g, cap, cur, hv, hb, _⟩
  · exact Or.inl ⟨hv, h0⟩
  · exact Or.inr ⟨g, cap, hv, hb⟩
theorem OwnI.slice {w w1 : World} {v : Value} {m : Nat} {xs : List Int} (h : OwnI w w1 v m xs) : ∃ A c, v = .slice A m c := by
  rcases h.form with ⟨rfl, rfl⟩ | ⟨g, c, rfl, _⟩
  · exact ⟨_, _, rfl⟩
  · exact ⟨_, _, rfl⟩
theorem icells_set (xs : List Int) (k : Nat) (x : Int) : (xs.flatMap icells).set k (.int .i64 x) = (xs.set k x).flatMap icells := by
  induction xs generalizing k with
  | nil => simp
  | cons y ys ih =>
    cases k with
    | zero => simp [icells]
    | succ k => rw [List.set_cons_succ, List.flatMap_cons, List.flatMap_cons, ← ih k]; rfl
theorem OwnI.set_ {w w1 : World} {g c m : Nat} {xs : List Int} (h : OwnI w w1 (.slice (some ⟨g, 0, none⟩) m c) m xs) (k : Nat) (x : Int) :
    OwnI w (w1.setCell ⟨g, k, none⟩ (.int .i64 x)) (.slice (some ⟨g, 0, none⟩) m c) m (xs.set k x) :=
  ⟨by rw [← icells_set]; exact (h.1.stored k _).1, by rw [List.length_set]; exact h.2⟩
theorem OwnI.at_ {w w1 : World} {g c m : Nat} {xs : List Int} (h : OwnI w w1 (.slice (some ⟨g, 0, none⟩) m c) m xs) {k : Nat} (hk : k < m) : ∃ x, w1.cell? ⟨g, k, none⟩ = some (.int .i64 x) := by
  obtain ⟨b, off, x, e, _, _, hc⟩ := (Rd.of_own icells_len h.1 h.2).intAt hk
  injection e with e; injection e with e1 e2
  subst e1 e2
  rw [Nat.zero_add] at hc
  exact ⟨x, hc⟩
theorem cell_one (w : World) (x : Int) (ty : TypeId) (g : Nat) (hg : g = w.heap.size) : ∀ j u, (icells x)[j]? = some u → (w.alloc (.cells #[.int .i64 x] ty)).cell? ((⟨g, 0, none⟩ : Addr).add j) = some u := by
  subst hg
  intro j u hu
  rw [Addr.add_lit, Nat.zero_add, World.cell?_alloc_at _ _ _ _ rfl]
  simpa [icells] using hu
theorem icells_oneCell (x : Int) : ∀ u ∈ icells x, u.oneCell' = true := by
  intro u hu
  simp only [icells, List.mem_singleton] at hu
  subst hu; rfl

set_option maxRecDepth 100000 in
set_option maxHeartbeats 6400000 in
theorem l4Draw_any (R : Nat) (A : Option Addr) (n c : Nat) (bs : List UInt8) (p : Nat) (m : Nat) (w : World) (h : Rdr w R A n c bs p) (hp : p < 999000) (hm : m ≤ 6) :
    Calls Try.prog 55 #[.pointer (some ⟨R, 0, none⟩), .int .i64 (m : Int)] w fun e w' => ∃ (D : Option Addr) (k d : Nat) (xs : List Int), e = .returned (.slice D k d) ∧ k ≤ 7 ∧ OwnI w w' (.slice D k d) k xs ∧ Drawn w R A n c bs p 20 w' := by
  have hR := h.lt
  have E0 := Lib.hid ((Drawn.refl h).alloc (.cells #[] 3))
  have o0 := Lib.hid (OwnI.new w)
  obtain ⟨inf, hi, hz0, hz1, hz2⟩ := info_parts infoIntD
  clear h
  go_enter Try.func55, Try.ntmps55
  go_wp2_with fail
  go_loopw [5, 6] (fun v i wr => ∃ (j : Nat) (xs : List Int), i = .int .i64 j ∧ j ≤ m ∧ OwnI w wr v j xs ∧ Drawn w R A n c bs p j wr) (fun _ i _ => m - (intOf i).toNat)
  case atStart => exact ⟨0, [], rfl, Nat.zero_le _, o0.out, E0.out⟩
  case round =>
    obtain ⟨j, xs, rfl, hj, ho, hD⟩ := hrel
    replace ho := Lib.hid ho
    replace hD := Lib.hid hD
    clear o0 E0
    by_cases hjm : j < m
    · go_wp2_with fail
      refine (hD.out.pick (by omega) _).mono ?_
      rintro e w1 ⟨k, rfl, hk, D1, g1⟩
      have o1 := Lib.hid ((ho.out.grown hR g1).alloc (.cells #[.int .i64 (j : Int)] 3))
      replace D1 := Lib.hid (D1.alloc (.cells #[.int .i64 (j : Int)] 3))
      obtain ⟨k, rfl⟩ := Int.eq_ofNat_of_zero_le hk.1
      have hkj : k ≤ j := by have := hk.2.1 (by omega); omega
      have c1 := Lib.hid (cell_one w1 (j : Int) 3 w1.heap.size rfl)
      have hsz := D1.out.2.1.size
      clear g1 hk ho hD
      go_wp2_with (at_builtin; refine wpList_append_own _ rfl _ _ 43 rfl w.heap.size 3 inf _ 1 8 Try.underlying43 hi hz0 hz1 hz2 rfl (by decide) _ _ _ rfl o1.out.1 ⟨w1.heap.size, 0, none⟩ 1 1 (icells (j : Int)) rfl rfl c1.out (icells_oneCell _) ?c3 ?c4 ?c5 ?_)
      case c3 => unfold maxLen; omega
      case c4 => omega
      case c5 => exact hsz
      intro v' w2 hown2 hg2 _
      have o2 := show OwnI w w2 v' (j + 1) (xs ++ [(j : Int)]) from ⟨by rw [List.flatMap_append]; simpa using hown2, by rw [List.length_append, o1.out.2]; rfl⟩
      have D2 := Lib.hid (D1.out.own hg2 (fun g e => (o1.out.1.lt g e).1))
      obtain ⟨g, c', hv, hgw⟩ : ∃ g c', v' = .slice (some ⟨g, 0, none⟩) (j + 1) c' ∧ w.heap.size ≤ g := by
        rcases o2.form with ⟨_, h0⟩ | hh
        · omega
        · exact hh
      subst hv
      obtain ⟨x, cx⟩ := o2.at_ (k := k) (by omega)
      obtain ⟨y, cy⟩ := o2.at_ (k := j) (by omega)
      have f1 := o2.1.frozenAt k
      have f2 := o2.1.frozenAt j
      have o3 := o2.set_ k y
      have o4 := Lib.hid (o3.set_ j x)
      have D4 := Lib.hid ((D2.out.set_ (q := ⟨g, k, none⟩) hgw (.int .i64 y)).set_ (q := ⟨g, j, none⟩) hgw (.int .i64 x))
      obtain ⟨z, cz⟩ := o3.at_ (k := j) (by omega)
      have i0 : (0 : Int) ≤ (k : Int) := by omega
      have i1 : (k : Int) < (j : Int) + 1 := by omega
      have i2 : (0 : Int) ≤ (j : Int) := by omega
      clear hown2 hg2 D1 o1 c1 D2 o2 o3
      go_wp2
      go_roundw
      case rel => exact ⟨j + 1, _, by go_num, by omega, o4.out, D4.out⟩
      case measure => simp [intOf]; omega
    · have hjm' : j = m := by omega
      subst hjm'
      go_wp2_with fail
      refine (hD.out.pick (by omega) _).mono ?_
      rintro e w1 ⟨q, rfl, hq, D1, g1⟩
      have o1 := Lib.hid (ho.out.grown hR g1)
      replace D1 := Lib.hid D1
      clear g1 hq ho hD
      by_cases hq0 : (q == 0) = true
      · have hs1 := D1.out.2.1.size
        have n2 := Lib.hid (rdI_new w1 3 #[.int .i64 0, .int .i64 5, .int .i64 (-1)] w1.heap.size [0, 5, -1] rfl rfl 3 rfl (by decide))
        replace D1 := Lib.hid (D1.out.alloc (.cells #[.int .i64 0, .int .i64 5, .int .i64 (-1)] 3))
        replace o1 := Lib.hid (o1.out.alloc (.cells #[.int .i64 0, .int .i64 5, .int .i64 (-1)] 3))
        go_wp2_with fail
        refine (D1.out.num (by omega) n2.out (by decide) (by decide) (by omega)).mono ?_
        rintro e w2 ⟨v, rfl, hv, D2, g2⟩
        have o2 := Lib.hid ((o1.out.grown hR g2).alloc (.cells #[.int .i64 v] 3))
        replace D2 := Lib.hid (D2.alloc (.cells #[.int .i64 v] 3))
        have c1 := Lib.hid (cell_one w2 v 3 w2.heap.size rfl)
        have hsz := D2.out.2.1.size
        clear g2 hv o1 D1 n2 hs1
        go_wp2_with (at_builtin; refine wpList_append_own _ rfl _ _ 43 rfl w.heap.size 3 inf _ 1 8 Try.underlying43 hi hz0 hz1 hz2 rfl (by decide) _ _ _ rfl o2.out.1 ⟨w2.heap.size, 0, none⟩ 1 1 (icells v) rfl rfl c1.out (icells_oneCell _) ?c3 ?c4 ?c5 ?_)
        case c3 => unfold maxLen; omega
        case c4 => omega
        case c5 => exact hsz
        intro v' w3 hown3 hg3 _
        have o3 := Lib.hid (show OwnI w w3 v' (j + 1) (xs ++ [v]) from ⟨by rw [List.flatMap_append]; simpa using hown3, by rw [List.length_append, o2.out.2]; rfl⟩)
        have D3 := Lib.hid (D2.out.own hg3 (fun g e => (o2.out.1.lt g e).1))
        obtain ⟨D', d', hv'⟩ := o3.out.slice
        subst hv'
        clear hown3 hg3 D2 o2 c1
        go_wp2
        go_ret
        exact ⟨_, _, _, _, rfl, by omega, o3.out, D3.out.more (by omega)⟩
      · have hq1 : (q == 0) = false := by simpa using hq0
        clear hq0
        obtain ⟨D', d', hv'⟩ := o1.out.slice
        subst hv'
        go_wp2
        go_ret
        exact ⟨_, _, _, _, rfl, by omega, o1.out, D1.out.more (by omega)⟩

end Go.Proofs.Ythedkdajjgcocaa
