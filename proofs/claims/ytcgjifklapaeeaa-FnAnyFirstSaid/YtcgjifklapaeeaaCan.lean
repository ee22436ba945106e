/- The contracts of l4Without and CanBeLast, of the reference. No condition. -/
import Derived.Test.YtcgjifklapaeeaaDel
import Derived.Test.YtcgjifklapaeeaaRespS
import Derived.Test.YtcgjifklapaeeaaPlacedS
import Derived.Deep.RegionHeld3
namespace Go.Proofs.Ytcgjifklapaeeaa
open Go.RowKit
set_option linter.unusedVariables false

/-- the task at a place can be last -/
def lastB (xs : List T) (i : Int) : Bool := plB xs i && endB (xs.eraseIdx i.toNat) (atT xs i.toNat)
theorem lastB_no {xs : List T} {i : Int} (h : plB xs i = false) : lastB xs i = false := by simp [lastB, h]
theorem lastB_yes {xs : List T} {k : Nat} {x : T} (h : plB xs (k : Int) = true) (hx : xs[k]? = some x) : lastB xs (k : Int) = endB (xs.eraseIdx k) x := by simp [lastB, h, atT_of hx]
/-- the list with the task at its end -/
def moveL (xs : List T) (k : Nat) (x : T) : List T := xs.eraseIdx k ++ [x]
theorem moveL_sv {xs : List T} {k : Nat} {x : T} (h : svB xs = true) (hx : xs[k]? = some x) : svB (moveL xs k x) = true := by
  refine sv_perm ?_ h
  have hk : k < xs.length := (List.getElem?_eq_some_iff.1 hx).1
  have he : xs[k] = x := (List.getElem?_eq_some_iff.1 hx).2
  unfold moveL
  rw [erase_eq]
  have h1 : xs = xs.take k ++ x :: xs.drop (k + 1) := by
    rw [← he]; simp
  have h2 : (xs.take k ++ x :: xs.drop (k + 1)).Perm (xs.take k ++ xs.drop (k + 1) ++ [x]) := by
    rw [List.append_assoc]
    exact List.Perm.append_left _ (by simpa using (List.perm_append_comm (l₁ := [x]) (l₂ := xs.drop (k + 1))))
  exact (List.Perm.of_eq h1).trans h2
theorem moveL_len {xs : List T} {k : Nat} {x : T} (hx : xs[k]? = some x) : (moveL xs k x).length = xs.length := by
  have hk : k < xs.length := (List.getElem?_eq_some_iff.1 hx).1
  unfold moveL
  rw [List.length_append, List.length_eraseIdx_of_lt hk, List.length_singleton]
  omega
theorem moveL_end {xs : List T} {k : Nat} {x : T} (hx : xs[k]? = some x) : endV (moveL xs k x) (xs.length - 1) = endB (xs.eraseIdx k) x := by
  have hk : k < xs.length := (List.getElem?_eq_some_iff.1 hx).1
  have hl : (xs.eraseIdx k).length = xs.length - 1 := List.length_eraseIdx_of_lt hk
  have h1 : (moveL xs k x)[xs.length - 1]? = some x := by
    unfold moveL
    rw [List.getElem?_append_right (by omega), hl, Nat.sub_self]; rfl
  rw [endV_of h1]
  congr 1
  unfold moveL
  rw [List.take_append_of_le_length (by omega), List.take_of_length_le (by omega)]

theorem step_own {P : Program} {w : World} {ops : Array Oper} {o : Oper} {a : Act} {K : Act → World → Prop} {Q : Exit → Act → World → Prop} {E : Prop} (hgd : o.guard = none) (s x : Operand) (t : TypeId)
    (ho : o.op = .call { callee := .builtin .append, args := #[s, x], argTypes := #[t, t] })
    (base : Nat) (e : TypeId) (i : TypeInfo) (z : Value) (size bytes : Nat) (ht : P.underlying t = some (.slice e)) (hi : P.info? e = some i) (hz : i.zero = some z)
    (hsize : i.size = size) (hby : i.bytes = bytes) (hzs : z.cells.size = size) (hsz : 0 < size)
    (v : Value) (n : Nat) (xs : List Value) (hs : a.eval s = v) (hown : w.ownsRow base e size v n xs)
    (ad : Addr) (m c : Nat) (news : List Value) (hx : a.eval x = .slice (some ad) m c) (hl : news.length = m * size) (hnews : ∀ j u, news[j]? = some u → w.cell? (ad.add j) = some u) (h1 : ∀ u ∈ news, u.oneCell' = true)
    (h63 : n + m ≤ maxLen) (hbytes : (n + m) * bytes ≤ 140737488355328) (hbase : base ≤ w.heap.size)
    (h : ∀ v' w', w'.ownsRow base e size v' (n + m) (xs ++ news) → w.grownBy w' v.ownBlock → (v' = .slice none 0 0 ↔ v = .slice none 0 0 ∧ m = 0) → K (a.put o.dst v') w') :
    if Region.wanted o (yielded ops a.tmps) = true then Oper.wp P o a w K Q else E := by
  have hw : Region.wanted o (yielded ops a.tmps) = true := by simp [Region.wanted, hgd]
  rw [if_pos hw]
  exact wp_append_own w s x t ho base e i z size bytes ht hi hz hsize hby hzs hsz v n xs hs hown ad m c news hx hl hnews h1 h63 hbytes hbase h
theorem rd_take_at {w : World} {b off d m : Nat} {ys : List T} (h : RdT w (some ⟨b, off, none⟩) m d ys) {a : Nat} (ha : a ≤ m) : ∀ j u, ((ys.take a).flatMap T.cells)[j]? = some u → w.cell? ((⟨b, off, none⟩ : Addr).add j) = some u := by
  rcases Nat.eq_zero_or_pos a with h0 | h0
  · subst h0; intro j u hu; simp at hu
  · exact rd_cells (A := none) (h.take ha) h0
theorem rd_drop_at {w : World} {b off d m : Nat} {ys : List T} (h : RdT w (some ⟨b, off, none⟩) m d ys) {a : Nat} (ha : a ≤ m) : ∀ j u, ((ys.drop a).flatMap T.cells)[j]? = some u → w.cell? ((⟨b, off + a * 5, none⟩ : Addr).add j) = some u := by
  by_cases h0 : a = m
  · intro j u hu
    rw [List.drop_eq_nil_of_le (by rw [h.len]; omega)] at hu
    simp at hu
  · exact rd_cells (A := none) (h.dropS ha) (by omega)

set_option maxRecDepth 100000 in
set_option maxHeartbeats 6400000 in
theorem l4Without_any (b off n c k : Nat) (xs : List T) (w : World) (h : RdT w (some ⟨b, off, none⟩) n c xs) (hk : k < n) (hn : n ≤ 1000) :
    Calls Try.prog 57 #[.slice (some ⟨b, off, none⟩) n c, .int .i64 k] w fun e w' => ∃ g d : Nat, e = .returned (.slice (some ⟨g, 0, none⟩) (n - 1) d) ∧ OwnT w w' (.slice (some ⟨g, 0, none⟩) (n - 1) d) (n - 1) (xs.eraseIdx k) ∧ Below w.heap.size w w' := by
  obtain ⟨inf, hi, iz0, iz1, iz2⟩ := info_parts infoTaskD
  have hcn := h.cap
  have hcm := h.max
  unfold maxLen at hcm
  have q0 := Lib.hid h
  have hbA : Below w.heap.size w ((w.alloc (.cells #[] 40)).drew) := ((Below.refl w.heap.size w).alloc (Nat.le_refl _) (.cells #[] 40)).drew
  have N0 := Lib.hid (show OwnT w ((w.alloc (.cells #[] 40)).drew) (.slice (some ⟨w.heap.size, 0, none⟩) 0 0) 0 [] from OwnT.new w)
  have s1 := Lib.hid (rd_take_at (q0.out.below hbA) (a := k) (by omega))
  have l1 := Lib.hid (show ((xs.take k).flatMap T.cells).length = k * 5 by rw [flatMap_len T.cells_len, List.length_take, q0.out.len, Nat.min_eq_left (by omega)])
  have l2 := Lib.hid (show ((xs.drop (k + 1)).flatMap T.cells).length = (n - (k + 1)) * 5 by rw [flatMap_len T.cells_len, List.length_drop, q0.out.len])
  have hlen := Lib.hid (show k + (n - (k + 1)) = n - 1 by omega)
  have i0 : (0 : Int) ≤ (k : Int) := by omega
  have i1 : (k : Int) ≤ (c : Int) := by omega
  have i2 : (0 : Int) ≤ (k : Int) + 1 := by omega
  have i3 : (k : Int) + 1 ≤ (n : Int) := by omega
  have i4 : (n : Int) ≤ (c : Int) := by omega
  have i5 : IntKind.i64.wrap ((k : Int) + 1) = (k : Int) + 1 := IntWalk.i64_in _ (by omega)
  clear h
  by_cases hc1 : c = k + 1
  · obtain rfl : n = k + 1 := by omega
    subst hc1
    have a1 : (k : Int) ≤ (k : Int) + 1 := by omega
    have hdr : xs.drop (k + 1) = [] := List.drop_eq_nil_of_le (by rw [q0.out.len]; exact Nat.le_refl _)
    have He := Lib.hid (show xs.take k = xs.eraseIdx k by rw [erase_eq, hdr, List.append_nil])
    clear hdr l2 hlen
    go_enter Try.func57, Try.ntmps57
    go_wp2_with fail
    go_region_law (first
      | (refine step_own rfl (.tmp 5) (.tmp 8) 23 rfl w.heap.size 40 inf _ 5 40 Try.underlying23 hi iz0 iz1 iz2 rfl (by decide) _ _ _ rfl N0.out.1 ⟨b, off, none⟩ k (k + 1) ((xs.take k).flatMap T.cells) rfl l1.out s1.out (cells_all_one _) (by unfold maxLen; omega) (by omega) (by simp) ?_; intro v1 w2 hown1 hg1 hn1; have hg1' : ((w.alloc (.cells #[] 40)).drew).grownBy w2 (some w.heap.size) := hg1; have hb2 := hbA.grown hg1' hbA.size (fun k e => by injection e with e; omega); have N1 := Lib.hid (show OwnT w w2 v1 k (xs.take k) from ⟨by simpa using hown1, by rw [List.length_take, q0.out.len]; omega⟩); have nn1 := Lib.hid (show v1 ≠ .slice none 0 0 from fun e => by first | exact hn1 e | (have h := (hn1.1 e).1; cases h)); clear hown1 hg1 hg1' hn1)
      | (refine step_own rfl (.tmp 9) (.tmp 13) 23 rfl w.heap.size 40 inf _ 5 40 Try.underlying23 hi iz0 iz1 iz2 rfl (by decide) _ _ _ rfl N1.out.1 ⟨b, off, none⟩ 0 0 [] rfl rfl (fun j u hu => by simp at hu) (fun u hu => by simp at hu) (by unfold maxLen; omega) (by omega) hb2.size ?_; intro v2 w3 hown2 hg2 hn2; have hb3 := hb2.grown hg2 hb2.size (fun g e => (N1.out.1.lt g e).1); have N2 := Lib.hid (show OwnT w w3 v2 k (xs.take k) from ⟨by simpa using hown2, N1.out.2⟩); have nn2 := Lib.hid (show v2 ≠ .slice none 0 0 from fun e => by first | exact hn2 e | exact nn1.out (hn2.1 e).1 | exact nn1.out (hn2.1 e)); clear hown2 hg2 hn2))
    rw [He.out] at N2
    obtain ⟨g, d, hv, _⟩ := own_some N2.out nn2.out
    subst hv
    go_wp2
    go_ret
    exact ⟨_, _, rfl, N2.out, hb3⟩
  · have hc2 : ¬ k + 1 = c := fun e => hc1 e.symm
    go_enter Try.func57, Try.ntmps57
    go_wp2_with fail
    go_region_law (first
      | (refine step_own rfl (.tmp 5) (.tmp 8) 23 rfl w.heap.size 40 inf _ 5 40 Try.underlying23 hi iz0 iz1 iz2 rfl (by decide) _ _ _ rfl N0.out.1 ⟨b, off, none⟩ k c ((xs.take k).flatMap T.cells) rfl l1.out s1.out (cells_all_one _) (by unfold maxLen; omega) (by omega) (by simp) ?_; intro v1 w2 hown1 hg1 hn1; have hg1' : ((w.alloc (.cells #[] 40)).drew).grownBy w2 (some w.heap.size) := hg1; have hb2 := hbA.grown hg1' hbA.size (fun k e => by injection e with e; omega); have N1 := Lib.hid (show OwnT w w2 v1 k (xs.take k) from ⟨by simpa using hown1, by rw [List.length_take, q0.out.len]; omega⟩); have nn1 := Lib.hid (show v1 ≠ .slice none 0 0 from fun e => by first | exact hn1 e | (have h := (hn1.1 e).1; cases h)); have s2 := Lib.hid (rd_drop_at (q0.out.below hb2) (a := k + 1) (by omega)); clear hown1 hg1 hg1' hn1)
      | (refine step_own rfl (.tmp 9) (.tmp 13) 23 rfl w.heap.size 40 inf _ 5 40 Try.underlying23 hi iz0 iz1 iz2 rfl (by decide) _ _ _ rfl N1.out.1 ⟨b, off + (k + 1) * 5, none⟩ (n - (k + 1)) (c - (k + 1)) ((xs.drop (k + 1)).flatMap T.cells) rfl l2.out s2.out (cells_all_one _) (by unfold maxLen; omega) (by omega) hb2.size ?_; intro v2 w3 hown2 hg2 hn2; have hb3 := hb2.grown hg2 hb2.size (fun g e => (N1.out.1.lt g e).1); have N2 := Lib.hid (show OwnT w w3 v2 (n - 1) (xs.eraseIdx k) from ⟨by rw [erase_eq, List.flatMap_append, ← hlen.out]; exact hown2, by rw [List.length_eraseIdx_of_lt (by rw [q0.out.len]; exact hk), q0.out.len]⟩); have nn2 := Lib.hid (show v2 ≠ .slice none 0 0 from fun e => by first | exact hn2 e | exact nn1.out (hn2.1 e).1); clear hown2 hg2 hn2))
    obtain ⟨g, d, hv, _⟩ := own_some N2.out nn2.out
    subst hv
    go_wp2
    go_ret
    exact ⟨_, _, rfl, N2.out, hb3⟩

theorem c5_below {w w' : World} {m b o : Nat} {x : T} (hB : Below m w w') (hb : b < m)
    (h : w.cell? ⟨b, o, none⟩ = some (.int .i64 x.low) ∧ w.cell? ⟨b, o + 1, none⟩ = some (.int .i64 x.high) ∧ w.cell? ⟨b, o + 2, none⟩ = some (.int .i64 x.due) ∧ w.cell? ⟨b, o + 3, none⟩ = some (.int .i64 x.every) ∧ w.cell? ⟨b, o + 4, none⟩ = some (.bool x.crit)) :
    w'.cell? ⟨b, o, none⟩ = some (.int .i64 x.low) ∧ w'.cell? ⟨b, o + 1, none⟩ = some (.int .i64 x.high) ∧ w'.cell? ⟨b, o + 2, none⟩ = some (.int .i64 x.due) ∧ w'.cell? ⟨b, o + 3, none⟩ = some (.int .i64 x.every) ∧ w'.cell? ⟨b, o + 4, none⟩ = some (.bool x.crit) :=
  ⟨(hB.cell (p := ⟨b, o, none⟩) hb).trans h.1, (hB.cell (p := ⟨b, o + 1, none⟩) hb).trans h.2.1, (hB.cell (p := ⟨b, o + 2, none⟩) hb).trans h.2.2.1, (hB.cell (p := ⟨b, o + 3, none⟩) hb).trans h.2.2.2.1, (hB.cell (p := ⟨b, o + 4, none⟩) hb).trans h.2.2.2.2⟩
/-- the cells of a fresh block that holds one task -/
theorem one_news (w : World) (x : T) (ty : TypeId) : ∀ j u, ([x].flatMap T.cells)[j]? = some u → (w.alloc (.cells #[.int .i64 x.low, .int .i64 x.high, .int .i64 x.due, .int .i64 x.every, .bool x.crit] ty)).cell? ((⟨w.heap.size, 0, none⟩ : Addr).add j) = some u := by
  intro j u hu
  rw [Addr.add_lit]
  have e : [x].flatMap T.cells = x.cells := by simp
  rw [e] at hu
  rcases j with _ | _ | _ | _ | _ | j
  · exact hu ▸ World.cell?_alloc_at (w := w) _ ty w.heap.size 0 rfl
  · exact hu ▸ World.cell?_alloc_at (w := w) _ ty w.heap.size 1 rfl
  · exact hu ▸ World.cell?_alloc_at (w := w) _ ty w.heap.size 2 rfl
  · exact hu ▸ World.cell?_alloc_at (w := w) _ ty w.heap.size 3 rfl
  · exact hu ▸ World.cell?_alloc_at (w := w) _ ty w.heap.size 4 rfl
  · simp [T.cells] at hu
theorem news_below {w w' : World} {g m : Nat} {L : List Value} (hB : Below m w w') (hg : g < m) (h : ∀ j u, L[j]? = some u → w.cell? ((⟨g, 0, none⟩ : Addr).add j) = some u) : ∀ j u, L[j]? = some u → w'.cell? ((⟨g, 0, none⟩ : Addr).add j) = some u := by
  intro j u hu
  have := h j u hu
  rw [Addr.add_lit] at this ⊢
  exact (hB.cell (p := ⟨g, 0 + j, none⟩) hg).trans this
theorem own_move {w : World} {base n k : Nat} {v : Value} {xs : List T} {x : T} (h : w.ownsRow base 40 5 v (n - 1 + 1) ((xs.eraseIdx k).flatMap T.cells ++ [x].flatMap T.cells)) (hn : 1 ≤ n) (hl : (moveL xs k x).length = n) (hnn : v ≠ .slice none 0 0) :
    ∃ g d, v = .slice (some ⟨g, 0, none⟩) n d ∧ RdT w (some ⟨g, 0, none⟩) n d (moveL xs k x) := by
  rw [Nat.sub_add_cancel hn, ← List.flatMap_append] at h
  rcases h.2 with ⟨hv, _⟩ | ⟨g, cap, cur, hv, hb, _⟩
  · exact absurd hv hnn
  · subst hv
    exact ⟨g, cap, rfl, Rd.of_own T.cells_len h hl⟩

theorem news_grown {w w' : World} {g gg : Nat} {L : List Value} (hG : w.grownBy w' (some g)) (hlt : gg < w.heap.size) (hne : gg ≠ g) (h : ∀ j u, L[j]? = some u → w.cell? ((⟨gg, 0, none⟩ : Addr).add j) = some u) : ∀ j u, L[j]? = some u → w'.cell? ((⟨gg, 0, none⟩ : Addr).add j) = some u := by
  intro j u hu
  have h1 := h j u hu
  rw [Addr.add_lit] at h1 ⊢
  have h2 := hG.block gg hlt (fun e => hne (by injection e))
  rw [← h1]
  unfold World.cell?
  rw [h2]

set_option maxRecDepth 100000 in
set_option maxHeartbeats 6400000 in
theorem canBeLast_spec (A : Option Addr) (n c : Nat) (xs : List T) (i : Int) (w : World) (h : RdT w A n c xs) :
    Calls Try.prog 42 #[.slice A n c, .int .i64 i] w fun e w' => e = .returned (.bool (lastB xs i)) ∧ Below w.heap.size w w' := by
  obtain ⟨inf, hi, iz0, iz1, iz2⟩ := info_parts infoTaskD
  have hz0 := Below.refl w.heap.size w
  have q0 := Lib.hid h
  cases hp : plB xs i
  · have E1 := Lib.hid (lastB_no hp)
    have Hp := Lib.hid hp
    clear hp h
    go_enter Try.func42, Try.ntmps42
    go_wp2_with fail
    refine (placed_spec A n c xs i w q0.out).mono ?_
    rw [Hp.out]
    rintro e w1 ⟨rfl, hb1⟩
    have hz1 := hz0.trans (hb1.mono hz0.size)
    clear hb1
    go_wp2
    go_ret
    exact ⟨ret_bool E1.out.symm, hz1⟩
  · obtain ⟨hs, k, rfl, hk⟩ := plB_at h.len hp
    obtain ⟨b, off, x, hA, hx, hb, c0, c1, c2, c3, c4⟩ := h.taskAt hk
    subst hA
    have hn5 : n ≤ 5 := by have := (sv_all hs).1; rw [h.len] at this; exact this
    have E1 := Lib.hid (lastB_yes hp hx)
    have Hp := Lib.hid hp
    have HM := Lib.hid (moveL_sv hs hx)
    have HE := Lib.hid (moveL_end hx)
    have HX := Lib.hid (moveL_len hx)
    have Hl := Lib.hid h.len
    have i0 : (0 : Int) ≤ (k : Int) := by omega
    have i1 : (k : Int) < (n : Int) := by omega
    clear hp h hs hx
    go_enter Try.func42, Try.ntmps42
    go_wp2_with fail
    refine (placed_spec _ n c xs k w q0.out).mono ?_
    rw [Hp.out]
    rintro e w1 ⟨rfl, hz1⟩
    have q1 := Lib.hid (q0.out.below hz1)
    replace c0 := (hz1.cell (p := ⟨b, off + k * 5, none⟩) hb).trans c0
    replace c1 := (hz1.cell (p := ⟨b, off + k * 5 + 1, none⟩) hb).trans c1
    replace c2 := (hz1.cell (p := ⟨b, off + k * 5 + 2, none⟩) hb).trans c2
    replace c3 := (hz1.cell (p := ⟨b, off + k * 5 + 3, none⟩) hb).trans c3
    replace c4 := (hz1.cell (p := ⟨b, off + k * 5 + 4, none⟩) hb).trans c4
    have hb1 : b < w1.heap.size := Nat.lt_of_lt_of_le hb hz1.size
    go_upto_region 3 with fail
    go_cut [5] (fun s5 wx => ∃ (D : Option Addr) (d' : Nat), s5 = .slice D n d' ∧ RdT wx D n d' (moveL xs k x) ∧ Below w.heap.size w wx)
    case first =>
      have HX' : (moveL xs k x).length = n := HX.out.trans Hl.out
      have hC5 := (show w1.cell? ⟨b, off + k * 5, none⟩ = some (.int .i64 x.low) ∧ w1.cell? ⟨b, off + k * 5 + 1, none⟩ = some (.int .i64 x.high) ∧ w1.cell? ⟨b, off + k * 5 + 2, none⟩ = some (.int .i64 x.due) ∧ w1.cell? ⟨b, off + k * 5 + 3, none⟩ = some (.int .i64 x.every) ∧ w1.cell? ⟨b, off + k * 5 + 4, none⟩ = some (.bool x.crit) from ⟨c0, c1, c2, c3, c4⟩)
      go_region_held3 (fun w' => w'.cell? ⟨b, off + k * 5, none⟩ = some (.int .i64 x.low) ∧ w'.cell? ⟨b, off + k * 5 + 1, none⟩ = some (.int .i64 x.high) ∧ w'.cell? ⟨b, off + k * 5 + 2, none⟩ = some (.int .i64 x.due) ∧ w'.cell? ⟨b, off + k * 5 + 3, none⟩ = some (.int .i64 x.every) ∧ w'.cell? ⟨b, off + k * 5 + 4, none⟩ = some (.bool x.crit))
        (first
          | exact hC5
          | exact c5_below B4 hb1 hC5
          | exact c5_below (B3.alloc B3.size _) hb1 hC5
          | exact c5_below B3 hb1 hC5
          | exact c5_below (((Below.refl w1.heap.size w1).drew).alloc (Nat.le_refl _) _) hb1 hC5)
        (first
          | (go_at_call 57; refine (l4Without_any b off n c k xs _ (by first | exact q1.out.drew | exact (q1.out.drew.alloc _).drew | exact q1.out.drew.alloc _ | exact q1.out.alloc _ | exact (q1.out.alloc _).drew) hk (by omega)).mono ?_; rintro e w3 ⟨g, d, rfl, o3, hb3⟩; have B3 : Below w1.heap.size w1 w3 := (by first | exact ((Below.refl _ _).drew).trans (hb3.mono (Nat.le_refl _)) | exact (((Below.refl _ _).drew).alloc (Nat.le_refl _) _).trans (hb3.mono (by simp [go_sem]))))
          | (refine step_own rfl (.tmp 12) (.tmp 17) 23 rfl _ 40 inf _ 5 40 Try.underlying23 hi iz0 iz1 iz2 rfl (by decide) _ _ _ rfl (own_below o3.1 ((Below.refl _ _).alloc (Nat.le_refl _) _)) _ 1 1 ([x].flatMap T.cells) rfl rfl (one_news w3 x _) (cells_all_one _) (by unfold maxLen; omega) (by omega) (Nat.le_trans hb3.size (by simp)) ?_; intro v4 w4 hown4 hg4 hn4; obtain ⟨g4, d4, rfl, r4⟩ := own_move hown4 (by omega) HX' (fun e => by have := (hn4.1 e).2; omega); have B4 : Below w1.heap.size w1 w4 := (B3.alloc B3.size _).grown hg4 (Nat.le_trans B3.size (by simp)) (fun k e => by injection e with e; subst e; have h1 := (o3.1.lt _ rfl).1; exact Nat.le_trans (by simp) h1); clear hown4 hn4)
          | (refine step_own rfl (.tmp 12) (.tmp 17) 23 rfl _ 40 inf _ 5 40 Try.underlying23 hi iz0 iz1 iz2 rfl (by decide) _ _ _ rfl o3.1 _ 1 1 ([x].flatMap T.cells) rfl rfl (news_below hb3 (by simp) (one_news _ x _)) (cells_all_one _) (by unfold maxLen; omega) (by omega) hb3.size ?_; intro v4 w4 hown4 hg4 hn4; obtain ⟨g4, d4, rfl, r4⟩ := own_move hown4 (by omega) HX' (fun e => by have := (hn4.1 e).2; omega); have B4 : Below w1.heap.size w1 w4 := B3.grown hg4 B3.size (fun k e => by injection e with e; subst e; have h1 := (o3.1.lt _ rfl).1; exact Nat.le_trans (by simp) h1); clear hown4 hn4))
      all_goals
        go_wp2_with fail
        go_meet
        exact ⟨_, _, rfl, r4, hz1.trans (B4.mono hz1.size)⟩
    case rest =>
      obtain ⟨D, d', rfl, r4, hz4⟩ := hcut
      have R4 := Lib.hid r4
      have hB := Lib.hid (fun w' hw' => l3Both_any D n d' (moveL xs k x) (n - 1) w' hw' HM.out (by omega))
      have hn1 : ((n - 1 : Nat) : Int) = (n : Int) - 1 := by omega
      rw [hn1, ← Hl.out, HE.out, Hl.out] at hB
      clear r4 c0 c1 c2 c3 c4
      go_wp2_with fail
      refine (hB.out _ R4.out).mono ?_
      rintro e w5 ⟨rfl, hb5⟩
      have hz5 := hz4.trans (hb5.mono hz4.size)
      go_wp2
      go_ret
      exact ⟨ret_bool E1.out.symm, hz5⟩

set_option maxRecDepth 100000 in
set_option maxHeartbeats 6400000 in
theorem canBeLast_impl (A : Option Addr) (n c : Nat) (xs : List T) (i : Int) (w : World) (h : RdT w A n c xs) :
    Calls Try.prog 40 #[.slice A n c, .int .i64 i] w fun e w' => e = .returned (.bool (lastB xs i)) ∧ Below w.heap.size w w' := by
  obtain ⟨inf, hi, iz0, iz1, iz2⟩ := info_parts infoTaskD
  have hz0 := Below.refl w.heap.size w
  have q0 := Lib.hid h
  cases hp : plB xs i
  · have E1 := Lib.hid (lastB_no hp)
    have Hp := Lib.hid hp
    clear hp h
    go_enter Try.func40, Try.ntmps40
    go_wp2_with fail
    refine (placed_impl A n c xs i w q0.out).mono ?_
    rw [Hp.out]
    rintro e w1 ⟨rfl, hb1⟩
    have hz1 := hz0.trans (hb1.mono hz0.size)
    clear hb1
    go_wp2
    go_ret
    exact ⟨ret_bool E1.out.symm, hz1⟩
  · obtain ⟨hs, k, rfl, hk⟩ := plB_at h.len hp
    obtain ⟨b, off, x, hA, hx, hb, c0, c1, c2, c3, c4⟩ := h.taskAt hk
    subst hA
    have hn5 : n ≤ 5 := by have := (sv_all hs).1; rw [h.len] at this; exact this
    have E1 := Lib.hid (lastB_yes hp hx)
    have Hp := Lib.hid hp
    have HM := Lib.hid (moveL_sv hs hx)
    have HE := Lib.hid (moveL_end hx)
    have HX := Lib.hid (moveL_len hx)
    have Hl := Lib.hid h.len
    have i0 : (0 : Int) ≤ (k : Int) := by omega
    have i1 : (k : Int) < (n : Int) := by omega
    have i5 : IntKind.i64.wrap ((k : Int) + 1) = (k : Int) + 1 := IntWalk.i64_in _ (by omega)
    clear hp h hs hx
    go_enter Try.func40, Try.ntmps40
    go_wp2_with fail
    refine (placed_impl _ n c xs k w q0.out).mono ?_
    rw [Hp.out]
    rintro e w1 ⟨rfl, hz1⟩
    have q1 := Lib.hid (q0.out.below hz1)
    replace c0 := (hz1.cell (p := ⟨b, off + k * 5, none⟩) hb).trans c0
    replace c1 := (hz1.cell (p := ⟨b, off + k * 5 + 1, none⟩) hb).trans c1
    replace c2 := (hz1.cell (p := ⟨b, off + k * 5 + 2, none⟩) hb).trans c2
    replace c3 := (hz1.cell (p := ⟨b, off + k * 5 + 3, none⟩) hb).trans c3
    replace c4 := (hz1.cell (p := ⟨b, off + k * 5 + 4, none⟩) hb).trans c4
    have hb1 : b < w1.heap.size := Nat.lt_of_lt_of_le hb hz1.size
    go_upto_region 3 with fail
    go_cut [5] (fun s5 wx => ∃ (D : Option Addr) (d' : Nat), s5 = .slice D n d' ∧ RdT wx D n d' (moveL xs k x) ∧ Below w.heap.size w wx)
    case first =>
      have HX' : (moveL xs k x).length = n := HX.out.trans Hl.out
      have hC5 := (show w1.cell? ⟨b, off + k * 5, none⟩ = some (.int .i64 x.low) ∧ w1.cell? ⟨b, off + k * 5 + 1, none⟩ = some (.int .i64 x.high) ∧ w1.cell? ⟨b, off + k * 5 + 2, none⟩ = some (.int .i64 x.due) ∧ w1.cell? ⟨b, off + k * 5 + 3, none⟩ = some (.int .i64 x.every) ∧ w1.cell? ⟨b, off + k * 5 + 4, none⟩ = some (.bool x.crit) from ⟨c0, c1, c2, c3, c4⟩)
      go_region_held3 (fun w' => w'.cell? ⟨b, off + k * 5, none⟩ = some (.int .i64 x.low) ∧ w'.cell? ⟨b, off + k * 5 + 1, none⟩ = some (.int .i64 x.high) ∧ w'.cell? ⟨b, off + k * 5 + 2, none⟩ = some (.int .i64 x.due) ∧ w'.cell? ⟨b, off + k * 5 + 3, none⟩ = some (.int .i64 x.every) ∧ w'.cell? ⟨b, off + k * 5 + 4, none⟩ = some (.bool x.crit))
        (first
          | exact hC5
          | exact c5_below B5 hb1 hC5
          | exact c5_below (B4.alloc B4.size _) hb1 hC5
          | exact c5_below B4 hb1 hC5
          | exact c5_below (B3.alloc B3.size _) hb1 hC5
          | exact c5_below B3 hb1 hC5
          | exact c5_below (((Below.refl w1.heap.size w1).drew).alloc (Nat.le_refl _) _) hb1 hC5)
        (first
          | (go_at_call 55; refine (clone_tasks b off n c xs _ (by first | exact q1.out.drew | exact (q1.out.drew.alloc _).drew | exact q1.out.drew.alloc _) (by omega) (by omega)).mono ?_; rintro e w3 ⟨g, d, rfl, o3, hb3⟩; have B3 : Below w1.heap.size w1 w3 := (by first | exact ((Below.refl _ _).drew).trans (hb3.mono (Nat.le_refl _)) | exact (((Below.refl _ _).drew).alloc (Nat.le_refl _) _).trans (hb3.mono (by simp [go_sem]))); have hgb : w1.heap.size ≤ g := Nat.le_trans (by simp) (o3.1.lt _ rfl).1; have hgl : g < w3.heap.size := (o3.1.lt _ rfl).2; (try (have hgn : w1.heap.size < g := Nat.lt_of_lt_of_le (by simp) (o3.1.lt _ rfl).1; have nw3 := news_below hb3 (by simp) (one_news w1.drew x 40))))
          | (go_at_call 54; refine (delete_tasks _ _ g n d k xs (by first | exact o3 | exact ⟨own_below o3.1 ((Below.refl _ _).alloc (Nat.le_refl _) _), o3.2⟩) hk (by omega)).mono ?_; rintro e w4 ⟨rfl, o4, hg4⟩; have B4 : Below w1.heap.size w1 w4 := (by first | exact B3.grown hg4 B3.size (fun k e => by injection e with e; subst e; exact hgb) | exact (B3.alloc B3.size _).grown hg4 (Nat.le_trans B3.size (by simp)) (fun k e => by injection e with e; subst e; exact hgb)))
          | (refine step_own rfl (.tmp 15) (.tmp 20) 23 rfl _ 40 inf _ 5 40 Try.underlying23 hi iz0 iz1 iz2 rfl (by decide) _ _ _ rfl (own_below o4.1 ((Below.refl _ _).alloc (Nat.le_refl _) _)) _ 1 1 ([x].flatMap T.cells) rfl rfl (one_news w4 x _) (cells_all_one _) (by unfold maxLen; omega) (by omega) (Nat.le_trans hb3.size (Nat.le_trans hg4.size (by simp))) ?_; intro v5 w5 hown5 hg5 hn5; obtain ⟨g5, d5, rfl, r5⟩ := own_move hown5 (by omega) HX' (fun e => by have := (hn5.1 e).2; omega); have B5 : Below w1.heap.size w1 w5 := (B4.alloc B4.size _).grown hg5 (Nat.le_trans B4.size (by simp)) (fun k e => by injection e with e; subst e; exact hgb); clear hown5 hn5)
          | (refine step_own rfl (.tmp 15) (.tmp 20) 23 rfl _ 40 inf _ 5 40 Try.underlying23 hi iz0 iz1 iz2 rfl (by decide) _ _ _ rfl o4.1 _ 1 1 ([x].flatMap T.cells) rfl rfl (news_grown hg4 (by simp) (fun e => by omega) (one_news w3 x _)) (cells_all_one _) (by unfold maxLen; omega) (by omega) (Nat.le_trans hb3.size (Nat.le_trans (by simp) hg4.size)) ?_; intro v5 w5 hown5 hg5 hn5; obtain ⟨g5, d5, rfl, r5⟩ := own_move hown5 (by omega) HX' (fun e => by have := (hn5.1 e).2; omega); have B5 : Below w1.heap.size w1 w5 := B4.grown hg5 B4.size (fun k e => by injection e with e; subst e; exact hgb); clear hown5 hn5)
          | (refine step_own rfl (.tmp 15) (.tmp 20) 23 rfl _ 40 inf _ 5 40 Try.underlying23 hi iz0 iz1 iz2 rfl (by decide) _ _ _ rfl o4.1 _ 1 1 ([x].flatMap T.cells) rfl rfl (news_grown hg4 (Nat.lt_of_lt_of_le hgn (Nat.le_of_lt hgl)) (fun e => by have e2 : w1.heap.size = g := e; omega) nw3) (cells_all_one _) (by unfold maxLen; omega) (by omega) (Nat.le_trans hb3.size hg4.size) ?_; intro v5 w5 hown5 hg5 hn5; obtain ⟨g5, d5, rfl, r5⟩ := own_move hown5 (by omega) HX' (fun e => by have := (hn5.1 e).2; omega); have B5 : Below w1.heap.size w1 w5 := B4.grown hg5 B4.size (fun k e => by injection e with e; subst e; exact hgb); clear hown5 hn5))
      all_goals
        go_wp2_with fail
        go_meet
        exact ⟨_, _, rfl, r5, hz1.trans (B5.mono hz1.size)⟩
    case rest =>
      obtain ⟨D, d', rfl, r4, hz4⟩ := hcut
      have R4 := Lib.hid r4
      have hB := Lib.hid (fun w' hw' => holds_impl D n d' (moveL xs k x) (n - 1) w' hw' HM.out (by omega))
      have hn1 : ((n - 1 : Nat) : Int) = (n : Int) - 1 := by omega
      rw [hn1, ← Hl.out, HE.out, Hl.out] at hB
      clear r4 c0 c1 c2 c3 c4
      go_wp2_with fail
      refine (hB.out _ R4.out).mono ?_
      rintro e w5 ⟨rfl, hb5⟩
      have hz5 := hz4.trans (hb5.mono hz4.size)
      go_wp2
      go_ret
      exact ⟨ret_bool E1.out.symm, hz5⟩

end Go.Proofs.Ytcgjifklapaeeaa
