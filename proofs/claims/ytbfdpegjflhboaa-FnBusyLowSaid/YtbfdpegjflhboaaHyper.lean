/- The contracts of HyperOf, of the program and of the reference: the least common multiple of the periods of valid tasks. No condition. -/
import Derived.Test.YtbfdpegjflhboaaSet
import Derived.Test.YtbfdpegjflhboaaGcd
namespace Go.Proofs.Ytbfdpegjflhboaa
open Go.RowKit
set_option linter.unusedVariables false

/-- the least common multiple of the periods -/
def hyN : List T → Nat := List.foldl (fun o t => Nat.lcm o t.every.toNat) 1
theorem hyN_snoc (xs : List T) (x : T) : hyN (xs ++ [x]) = Nat.lcm (hyN xs) x.every.toNat := by simp [hyN]
def hyI (xs : List T) : Int := if svB xs = true then (hyN xs : Int) else 0
theorem hyI_no {xs : List T} (h : svB xs = false) : hyI xs = 0 := by simp [hyI, h]
theorem hyI_yes {xs : List T} {n : Nat} (hl : xs.length = n) (h : svB xs = true) : hyI xs = (hyN (xs.take n) : Int) := by
  rw [List.take_of_length_le (by omega)]; simp [hyI, h]

theorem foldl_lcm_dvd (xs : List T) (a m : Nat) : xs.foldl (fun o t => Nat.lcm o t.every.toNat) a ∣ m ↔ a ∣ m ∧ ∀ t ∈ xs, t.every.toNat ∣ m := by
  induction xs generalizing a with
  | nil => simp
  | cons x xs ih =>
    rw [List.foldl_cons, ih, Nat.lcm_dvd_iff]
    simp only [List.mem_cons, forall_eq_or_imp, and_assoc]
theorem hyN_dvd (xs : List T) (m : Nat) : hyN xs ∣ m ↔ ∀ t ∈ xs, t.every.toNat ∣ m := by
  unfold hyN; rw [foldl_lcm_dvd]; simp
theorem hyN_mem {xs : List T} {t : T} (h : t ∈ xs) : t.every.toNat ∣ hyN xs := (hyN_dvd xs (hyN xs)).1 (Nat.dvd_refl _) t h
theorem hyN_same {xs ys : List T} (h : ∀ t, t ∈ xs ↔ t ∈ ys) : hyN xs = hyN ys :=
  Nat.dvd_antisymm ((hyN_dvd _ _).2 fun t ht => hyN_mem ((h t).1 ht)) ((hyN_dvd _ _).2 fun t ht => hyN_mem ((h t).2 ht))
theorem hyN_bd (xs : List T) (h : ∀ t ∈ xs, 1 ≤ t.every ∧ t.every ≤ 20) : 1 ≤ hyN xs ∧ hyN xs ≤ 20 ^ xs.length := by
  have key : ∀ (ys : List T) (a : Nat), (∀ t ∈ ys, 1 ≤ t.every ∧ t.every ≤ 20) → 1 ≤ a → 1 ≤ ys.foldl (fun o t => Nat.lcm o t.every.toNat) a ∧ ys.foldl (fun o t => Nat.lcm o t.every.toNat) a ≤ a * 20 ^ ys.length := by
    intro ys
    induction ys with
    | nil => intro a _ ha; simp; exact ha
    | cons y ys ih =>
      intro a hy ha
      have h1 := hy y (by simp)
      have h2 : 1 ≤ Nat.lcm a y.every.toNat := Nat.lcm_pos (by omega) (by omega)
      have h3 : Nat.lcm a y.every.toNat ≤ a * 20 := by
        refine Nat.le_trans (Nat.le_of_dvd (Nat.mul_pos (by omega) (by omega)) (Nat.lcm_dvd_mul a y.every.toNat)) (Nat.mul_le_mul_left _ (by omega))
      obtain ⟨h4, h5⟩ := ih (Nat.lcm a y.every.toNat) (fun t ht => hy t (by simp [ht])) h2
      rw [List.foldl_cons, List.length_cons]
      refine ⟨h4, Nat.le_trans h5 ?_⟩
      rw [Nat.pow_succ, Nat.mul_comm (20 ^ ys.length) 20, ← Nat.mul_assoc]
      exact Nat.mul_le_mul_right _ h3
  have := key xs 1 h (Nat.le_refl _)
  rw [Nat.one_mul] at this
  exact this
theorem sv_each {xs : List T} (h : svB xs = true) : xs.length ≤ 5 ∧ ∀ t ∈ xs, tvB t = true := by
  simpa [svB, List.all_eq_true] using h
theorem sv_every {xs : List T} (h : svB xs = true) : ∀ t ∈ xs, 1 ≤ t.every ∧ t.every ≤ 20 := fun t ht => by
  have := (tvB_iff t).1 ((sv_each h).2 t ht); omega
theorem pow20_le {k : Nat} (h : k ≤ 5) : 20 ^ k ≤ 3200000 := Nat.le_trans (Nat.pow_le_pow_right (by decide) h) (by decide)

/-- one round -/
theorem hy_step (o : Nat) (e : Int) (he : 1 ≤ e) : (o : Int) / gcdI (o : Int) e * e = ((Nat.lcm o e.toNat : Nat) : Int) := by
  obtain ⟨k, rfl⟩ := Int.eq_ofNat_of_zero_le (show (0 : Int) ≤ e by omega)
  rw [gcdI_nat, Int.toNat_natCast, ← Int.natCast_ediv, ← Int.natCast_mul]
  congr 1
  rw [Nat.lcm, Nat.mul_comm o k, Nat.mul_div_assoc k (Nat.gcd_dvd_left o k), Nat.mul_comm]
theorem hyN_round {xs : List T} {k : Nat} {x : T} (h : svB xs = true) (hx : xs[k]? = some x) (hk : k < xs.length) :
    1 ≤ hyN (xs.take k) ∧ hyN (xs.take k) ≤ 160000 ∧ (hyN (xs.take k) : Int) / gcdI (hyN (xs.take k) : Int) x.every * x.every = (hyN (xs.take (k + 1)) : Int) ∧ hyN (xs.take (k + 1)) ≤ 3200000 ∧ 1 ≤ hyN (xs.take (k + 1)) := by
  have h5 := (sv_each h).1
  have hv := sv_every h
  have hb := hyN_bd (xs.take k) (fun t ht => hv t (List.mem_of_mem_take ht))
  have hb2 := hyN_bd (xs.take (k + 1)) (fun t ht => hv t (List.mem_of_mem_take ht))
  have hl : (xs.take k).length = k := by rw [List.length_take]; omega
  have hl2 : (xs.take (k + 1)).length = k + 1 := by rw [List.length_take]; omega
  rw [hl] at hb
  rw [hl2] at hb2
  refine ⟨hb.1, Nat.le_trans hb.2 (Nat.le_trans (Nat.pow_le_pow_right (by decide) (show k ≤ 4 by omega)) (by decide)), ?_, Nat.le_trans hb2.2 (pow20_le (by omega)), hb2.1⟩
  rw [hy_step _ _ (hv x (List.mem_of_getElem? hx)).1, take_succ_of hx, hyN_snoc]

theorem hy_wrap {o o2 : Nat} {g e : Int} (h1 : 1 ≤ o) (h2 : o ≤ 160000) (hg : 1 ≤ g) (h3 : (o : Int) / g * e = (o2 : Int)) (h4 : o2 ≤ 3200000) : wrap64 (wrap64 ((o : Int) / g) * e) = (o2 : Int) := by
  have h5 : (0 : Int) ≤ (o : Int) / g := Int.ediv_nonneg (by omega) (by omega)
  have h6 : (o : Int) / g ≤ o := Int.ediv_le_self _ (by omega)
  rw [IntWalk.wrap64_in ((o : Int) / g) ⟨by omega, by omega⟩, h3, IntWalk.wrap64_in _ ⟨by omega, by omega⟩]

set_option maxRecDepth 100000 in
set_option maxHeartbeats 1600000 in
theorem hyperOf_impl (A : Option Addr) (n c : Nat) (xs : List T) (w : World) (h : RdT w A n c xs) :
    Calls Try.prog 54 #[.slice A n c] w fun e w' => e = .returned (.int .i64 (hyI xs)) ∧ Below w.heap.size w w' := by
  have hV := Lib.hid (setValid_impl A n c xs w h)
  cases hs : svB xs
  · have HE := Lib.hid (hyI_no hs)
    rw [hs] at hV
    clear h hs
    go_enter Try.func54, Try.ntmps54
    go_wp2_with fail
    refine hV.out.mono ?_
    rintro e w1 ⟨rfl, hb1⟩
    go_wp2
    go_ret
    exact ⟨ret_int HE.out.symm, hb1⟩
  · have HE := Lib.hid (hyI_yes h.len hs)
    have Hs := Lib.hid hs
    have hn5 : n ≤ 5 := by have := (sv_each hs).1; have := h.len; omega
    have hr0 := Lib.hid h
    rw [hs] at hV
    clear hs h
    go_enter Try.func54, Try.ntmps54
    go_wp2_with fail
    refine hV.out.mono ?_
    rintro e w1 ⟨rfl, hb1⟩
    go_wp2_with fail
    go_loopw [3, 11] (fun o i wr => ∃ k : Nat, i = .int .i64 k ∧ k ≤ n ∧ o = .int .i64 (hyN (xs.take k) : Int) ∧ Below w.heap.size w wr) (fun _ i _ => n - (intOf i).toNat)
    case atStart => exact ⟨0, rfl, Nat.zero_le _, rfl, hb1⟩
    case round =>
      obtain ⟨k, rfl, hk, rfl, hbel⟩ := hrel
      have hsz := hbel.size
      by_cases hkn : k < n
      · obtain ⟨b, off, x, rfl, hx, hb, c0, c1, c2, c3, c4⟩ := (hr0.out.below hbel).taskAt hkn
        have hE := sv_every Hs.out x (List.mem_of_getElem? hx)
        have he1 : 1 ≤ x.every := hE.1
        have he2 : x.every ≤ 20 := hE.2
        obtain ⟨g1, g2, g3, g4, g5⟩ := hyN_round Hs.out hx (by rw [hr0.out.len]; exact hkn)
        have hgp := gcdI_pos (a := (hyN (xs.take k) : Int)) he1
        generalize ho : hyN (xs.take k) = o at *
        have Ho := Lib.hid ho
        have Hg3 := Lib.hid (hy_wrap g1 g2 hgp g3 g4)
        clear ho hx hE g3 g4 g5
        have hb2 := Lib.hid (hbel.alloc hsz (.cells #[.int .i64 x.low, .int .i64 x.high, .int .i64 x.due, .int .i64 x.every, .bool x.crit] 30))
        have E3 := Lib.hid (fun d os => cell_new_regrown wr #[.int .i64 x.low, .int .i64 x.high, .int .i64 x.due, .int .i64 x.every, .bool x.crit] 30 3 _ rfl d os)
        have HC := Lib.hid (fun d os => Calls.regrown_of (d := d) (os := os) (common_any (o : Int) x.every (Go.Sort.grow (redrawn (wr.alloc (.cells #[.int .i64 x.low, .int .i64 x.high, .int .i64 x.due, .int .i64 x.every, .bool x.crit] 30)) d) os) (by omega) (by omega)))
        have e3 := E3.out
        go_wp2_with fail
        refine wp_region_quiet_below (by kernel_rfl) (by kernel_rfl) ?_
        repeat (go_big_quiet_step ((go_at_call 66; exact HC.out _ _)))
        refine wpQuiet_nil ?_
        intro w2 hwq
        have hbq := below_of_regrown hwq
        clear hwq
        go_wp2
        go_roundw
        case rel => exact ⟨k + 1, by go_num, by omega, by rw [Hg3.out], hb2.out.trans (hbq.mono hb2.out.size)⟩
        case measure => simp [intOf]; omega
      · have hkn' : k = n := by omega
        subst hkn'
        go_wp2
        go_ret
        exact ⟨ret_int HE.out.symm, hbel⟩

set_option maxRecDepth 100000 in
set_option maxHeartbeats 1600000 in
theorem hyperOf_spec (A : Option Addr) (n c : Nat) (xs : List T) (w : World) (h : RdT w A n c xs) :
    Calls Try.prog 56 #[.slice A n c] w fun e w' => e = .returned (.int .i64 (hyI xs)) ∧ Below w.heap.size w w' := by
  have hV := Lib.hid (setValid_spec A n c xs w h)
  cases hs : svB xs
  · have HE := Lib.hid (hyI_no hs)
    rw [hs] at hV
    clear h hs
    go_enter Try.func56, Try.ntmps56
    go_wp2_with fail
    refine hV.out.mono ?_
    rintro e w1 ⟨rfl, hb1⟩
    go_wp2
    go_ret
    exact ⟨ret_int HE.out.symm, hb1⟩
  · have HE := Lib.hid (hyI_yes h.len hs)
    have Hs := Lib.hid hs
    have hn5 : n ≤ 5 := by have := (sv_each hs).1; have := h.len; omega
    have hr0 := Lib.hid h
    rw [hs] at hV
    clear hs h
    go_enter Try.func56, Try.ntmps56
    go_wp2_with fail
    refine hV.out.mono ?_
    rintro e w1 ⟨rfl, hb1⟩
    go_wp2_with fail
    go_loopw [3, 4] (fun o i wr => ∃ k : Nat, i = .int .i64 k ∧ k ≤ n ∧ o = .int .i64 (hyN (xs.take k) : Int) ∧ Below w.heap.size w wr) (fun _ i _ => n - (intOf i).toNat)
    case atStart => exact ⟨0, rfl, Nat.zero_le _, rfl, hb1⟩
    case round =>
      obtain ⟨k, rfl, hk, rfl, hbel⟩ := hrel
      have hsz := hbel.size
      by_cases hkn : k < n
      · obtain ⟨b, off, x, rfl, hx, hb, c0, c1, c2, c3, c4⟩ := (hr0.out.below hbel).taskAt hkn
        have hE := sv_every Hs.out x (List.mem_of_getElem? hx)
        have he1 : 1 ≤ x.every := hE.1
        have he2 : x.every ≤ 20 := hE.2
        obtain ⟨g1, g2, g3, g4, g5⟩ := hyN_round Hs.out hx (by rw [hr0.out.len]; exact hkn)
        have hgp := gcdI_pos (a := (hyN (xs.take k) : Int)) he1
        generalize ho : hyN (xs.take k) = o at *
        have Ho := Lib.hid ho
        have Hg3 := Lib.hid (hy_wrap g1 g2 hgp g3 g4)
        have i0 : (0 : Int) ≤ (k : Int) := by omega
        have i1 : (k : Int) < (n : Int) := by omega
        clear ho hx hE g3 g4 g5
        have e3 := cell_regrown c3
        have HC := Lib.hid (fun d os => Calls.regrown_of (d := d) (os := os) (l1Gcd_any (o : Int) x.every (Go.Sort.grow (redrawn wr d) os) (by omega) (by omega)))
        clear c0 c1 c2 c3 c4
        go_wp2_with fail
        refine wp_region_quiet_below (by kernel_rfl) (by kernel_rfl) ?_
        repeat (go_big_quiet_step ((go_at_call 67; exact HC.out _ _)))
        refine wpQuiet_nil ?_
        intro w2 hwq
        have hbq := below_of_regrown hwq
        clear hwq
        go_wp2
        go_roundw
        case rel => exact ⟨k + 1, by go_num, by omega, by rw [Hg3.out], hbel.trans (hbq.mono hbel.size)⟩
        case measure => simp [intOf]; omega
      · have hkn' : k = n := by omega
        subst hkn'
        go_wp2
        go_ret
        exact ⟨ret_int HE.out.symm, hbel⟩

end Go.Proofs.Ytbfdpegjflhboaa
