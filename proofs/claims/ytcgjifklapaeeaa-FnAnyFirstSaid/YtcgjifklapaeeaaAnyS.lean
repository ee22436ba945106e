/- The contracts of AnyOrder and CountOrders, of the reference. No condition. -/
import Derived.Test.YtcgjifklapaeeaaEnumS
namespace Go.Proofs.Ytcgjifklapaeeaa
open Go.RowKit
set_option linter.unusedVariables false

section
variable {α : Type} {p : α → Bool} {L : List α} {i : Nat} {x : α}
theorem cnt_yes (hx : L[i]? = some x) (h : p x = true) : (L.take (i + 1)).countP p = (L.take i).countP p + 1 := by
  rw [take_succ_of hx, List.countP_append]; simp [h]
theorem cnt_no (hx : L[i]? = some x) (h : p x = false) : (L.take (i + 1)).countP p = (L.take i).countP p := by
  rw [take_succ_of hx, List.countP_append]; simp [h]
theorem find_no (hx : L[i]? = some x) (h : p x = false) (h0 : (L.take i).find? p = none) : (L.take (i + 1)).find? p = none := by
  rw [take_succ_of hx, List.find?_append, h0]; simp [h]
theorem find_yes (hx : L[i]? = some x) (h : p x = true) (h0 : (L.take i).find? p = none) : L.find? p = some x := by
  have e : L = L.take (i + 1) ++ L.drop (i + 1) := by simp
  rw [e, List.find?_append, take_succ_of hx, List.find?_append, h0]; simp [h]
end
theorem ord_facts {n : Nat} {o : List Int} (h : o ∈ allO n n []) : o.length = n ∧ ∀ x ∈ o, 0 ≤ x ∧ x < n := by
  have h1 := (isOrd_iff _ _).1 (all_ord.1 h)
  exact ⟨h1.1, h1.2.1⟩

set_option maxRecDepth 100000 in
set_option maxHeartbeats 6400000 in
theorem countOrders_spec (A : Option Addr) (n c : Nat) (xs : List T) (w : World) (h : RdT w A n c xs) :
    Calls Try.prog 12 #[.slice A n c] w fun e w' => e = .returned (.int .i64 (cntV xs : Int)) ∧ Below w.heap.size w w' := by
  have q0 := Lib.hid h
  have hz0 := Below.refl w.heap.size w
  cases hs : svB xs
  · have Hs := Lib.hid hs
    have HN := Lib.hid (cntV_no hs)
    clear h hs
    go_enter Try.func12, Try.ntmps12
    go_wp2_with fail
    refine (setValid_spec A n c xs w q0.out).mono ?_
    rw [Hs.out]
    rintro e w1 ⟨rfl, hb1⟩
    have hz1 := hz0.trans (hb1.mono hz0.size)
    replace q0 := Lib.hid (q0.out.below hb1)
    clear hb1
    go_wp2
    go_ret
    exact ⟨ret_int (by rw [HN.out]; rfl), hz1⟩
  · have hn5 : n ≤ 5 := by have := (sv_all hs).1; rw [h.len] at this; exact this
    have Hs := Lib.hid hs
    have HV := Lib.hid (cntV_yes hs h.len)
    have hpow := Nat.le_trans (allO_le n n []) (pow5_le hn5 hn5)
    have HO := Lib.hid (fun o (ho : o ∈ allO n n []) => ord_facts ho)
    clear h hs
    go_enter Try.func12, Try.ntmps12
    go_wp2_with fail
    refine (setValid_spec A n c xs w q0.out).mono ?_
    rw [Hs.out]
    rintro e w1 ⟨rfl, hb1⟩
    have hz1 := hz0.trans (hb1.mono hz0.size)
    replace q0 := Lib.hid (q0.out.below hb1)
    clear hb1
    have r1 := Lib.hid (OwnI.new w1).rd5
    have hz1a := hz1.alloc hz1.size (.cells #[] 3)
    go_wp2_with fail
    refine (l4All_any n hn5 n [] w1.heap.size 0 0 0 0 _ r1.out (by omega) (Nat.zero_le _) (Nat.zero_le _)).mono ?_
    rintro e w2 ⟨g, p, d, rfl, o2, hb2⟩
    have hz2 := hz1a.trans (hb2.mono hz1a.size)
    replace q0 := Lib.hid ((q0.out.alloc (.cells #[] 3)).below hb2)
    have hl := o2.len
    have O2 := Lib.hid o2
    have hcd := o2.capd
    unfold maxLen at hcd
    generalize allO n n [] = L at *
    rw [hl] at hpow
    have HL := Lib.hid hl
    clear hl o2 r1 hb2
    go_wp2_with fail
    go_loopw [3, 5] (fun sv iv wr => ∃ i s : Nat, iv = .int .i64 i ∧ i ≤ p ∧ sv = .int .i64 s ∧ s ≤ i ∧ Hid ((L.take i).countP (okO xs) = s) ∧ Below w2.heap.size w2 wr) (fun _ iv _ => p - (intOf iv).toNat)
    case atStart => exact ⟨0, 0, rfl, Nat.zero_le _, rfl, Nat.le_refl _, Lib.hid (by simp), Below.refl _ _⟩
    case round =>
      obtain ⟨i, s, rfl, hi, rfl, hsi, hC, hb⟩ := hrel
      have hzr := hz2.trans (hb.mono hz2.size)
      by_cases hip : i < p
      · obtain ⟨A', n', c', x, hx, c0, rI⟩ := (O2.out.below hb).at_ hip
        obtain ⟨hxl, hin⟩ := HO.out x (List.mem_of_getElem? hx)
        have hn' : n' = n := by rw [← hxl, ← rI.len]
        subst hn'
        have i0 : (0 : Int) ≤ (i : Int) := by omega
        have i1 : (i : Int) < (p : Int) := by omega
        have HY := Lib.hid (fun e => cnt_yes (p := okO xs) hx e)
        have HN := Lib.hid (fun e => cnt_no (p := okO xs) hx e)
        have RI := Lib.hid rI
        have HIN := Lib.hid hin
        have qr := Lib.hid (q0.out.below hb)
        clear hx hin rI hxl
        go_wp2_with fail
        refine (l4Put_any A A' n' c n' c' xs x wr qr.out RI.out HIN.out (by omega)).mono ?_
        rintro e w3 ⟨D3, d3, rfl, o3, hb3⟩
        have r3 := Lib.hid o3.rdS
        have hb03 := hb.trans (hb3.mono hb.size)
        have HB := Lib.hid (fun w => holdsBoth_spec D3 n' d3 (putL xs x) w)
        rw [show bothB (putL xs x) = okO xs x from rfl] at HB
        clear o3 hb3 RI HIN qr c0
        cases hq : okO xs x
        · rw [hq] at HB
          have HE := Lib.hid (HN.out hq)
          clear HY HN hq
          go_wp2_with fail
          refine (HB.out w3 r3.out).mono ?_
          rintro e w4 ⟨rfl, hb4⟩
          have hb04 := hb03.trans (hb4.mono hb03.size)
          go_wp2
          go_roundw
          case rel => exact ⟨i + 1, s, by go_num, by omega, rfl, by omega, Lib.hid (by rw [HE.out, hC.out]), hb04⟩
          case measure => simp [intOf]; omega
        · rw [hq] at HB
          have HE := Lib.hid (HY.out hq)
          clear HY HN hq
          go_wp2_with fail
          refine (HB.out w3 r3.out).mono ?_
          rintro e w4 ⟨rfl, hb4⟩
          have hb04 := hb03.trans (hb4.mono hb03.size)
          go_wp2
          go_roundw
          case rel => exact ⟨i + 1, s + 1, by go_num, by omega, by go_num, by omega, Lib.hid (by rw [HE.out, hC.out]), hb04⟩
          case measure => simp [intOf]; omega
      · have hip' : i = p := by omega
        subst hip'
        have HR := Lib.hid (show cntV xs = s by rw [HV.out, ← hC.out, List.take_of_length_le (by rw [HL.out]; exact Nat.le_refl _)])
        go_wp2
        go_ret
        exact ⟨ret_int (by rw [HR.out]), hzr⟩

/-- what AnyOrder is proved to return -/
def AnyPost (w : World) (O : Option (List Int)) (e : Ending) (w' : World) : Prop :=
  ∃ (D : Option Addr) (k d : Nat), e = .returned (.tuple #[.slice D k d, .bool O.isSome]) ∧ RdI w' D k d (O.getD []) ∧ Below w.heap.size w w'

set_option maxRecDepth 100000 in
set_option maxHeartbeats 6400000 in
theorem anyOrder_spec (A : Option Addr) (n c : Nat) (xs : List T) (w : World) (h : RdT w A n c xs) :
    Calls Try.prog 24 #[.slice A n c] w (AnyPost w (anyV xs)) := by
  have q0 := Lib.hid h
  have hz0 := Below.refl w.heap.size w
  cases hs : svB xs
  · have Hs := Lib.hid hs
    have HN := Lib.hid (anyV_no hs)
    rw [anyV_no hs]
    clear h hs
    go_enter Try.func24, Try.ntmps24
    go_wp2_with fail
    refine (setValid_spec A n c xs w q0.out).mono ?_
    rw [Hs.out]
    rintro e w1 ⟨rfl, hb1⟩
    have hz1 := hz0.trans (hb1.mono hz0.size)
    replace q0 := Lib.hid (q0.out.below hb1)
    clear hb1
    have o9 := Lib.hid (OwnI.new w1).rd5
    have hz9 := hz1.alloc hz1.size (.cells #[] 3)
    go_wp2
    go_ret2
    exact ⟨_, _, _, rfl, o9.out, hz9⟩
  · have hn5 : n ≤ 5 := by have := (sv_all hs).1; rw [h.len] at this; exact this
    have Hs := Lib.hid hs
    have HV := Lib.hid (anyV_yes hs h.len)
    have hpow := Nat.le_trans (allO_le n n []) (pow5_le hn5 hn5)
    have HO := Lib.hid (fun o (ho : o ∈ allO n n []) => ord_facts ho)
    obtain ⟨O, hO⟩ : ∃ O, anyV xs = O := ⟨_, rfl⟩
    rw [hO] at HV ⊢
    clear h hs hO
    go_enter Try.func24, Try.ntmps24
    go_wp2_with fail
    refine (setValid_spec A n c xs w q0.out).mono ?_
    rw [Hs.out]
    rintro e w1 ⟨rfl, hb1⟩
    have hz1 := hz0.trans (hb1.mono hz0.size)
    replace q0 := Lib.hid (q0.out.below hb1)
    clear hb1
    have r1 := Lib.hid (OwnI.new w1).rd5
    have hz1a := hz1.alloc hz1.size (.cells #[] 3)
    go_wp2_with fail
    refine (l4All_any n hn5 n [] w1.heap.size 0 0 0 0 _ r1.out (by omega) (Nat.zero_le _) (Nat.zero_le _)).mono ?_
    rintro e w2 ⟨g, p, d, rfl, o2, hb2⟩
    have hz2 := hz1a.trans (hb2.mono hz1a.size)
    replace q0 := Lib.hid ((q0.out.alloc (.cells #[] 3)).below hb2)
    have hl := o2.len
    have O2 := Lib.hid o2
    have hcd := o2.capd
    unfold maxLen at hcd
    generalize allO n n [] = L at *
    rw [hl] at hpow
    have HL := Lib.hid hl
    clear hl o2 r1 hb2
    go_wp2_with fail
    go_loopw [5] (fun iv wr => ∃ i : Nat, iv = .int .i64 i ∧ i ≤ p ∧ Hid ((L.take i).find? (okO xs) = none) ∧ Below w2.heap.size w2 wr) (fun iv _ => p - (intOf iv).toNat)
    case atStart => exact ⟨0, rfl, Nat.zero_le _, Lib.hid (by simp), Below.refl _ _⟩
    case round =>
      obtain ⟨i, rfl, hi, hC, hb⟩ := hrel
      have hzr := hz2.trans (hb.mono hz2.size)
      by_cases hip : i < p
      · obtain ⟨A', n', c', x, hx, c0, rI⟩ := (O2.out.below hb).at_ hip
        obtain ⟨hxl, hin⟩ := HO.out x (List.mem_of_getElem? hx)
        have hn' : n' = n := by rw [← hxl, ← rI.len]
        subst hn'
        have i0 : (0 : Int) ≤ (i : Int) := by omega
        have i1 : (i : Int) < (p : Int) := by omega
        have HY := Lib.hid (fun e => find_yes (p := okO xs) hx e hC.out)
        have HN := Lib.hid (fun e => find_no (p := okO xs) hx e hC.out)
        have RI := Lib.hid rI
        have HIN := Lib.hid hin
        have qr := Lib.hid (q0.out.below hb)
        have c0lt := (O2.out.below hb).lt.2
        clear hx hin rI hxl
        go_wp2_with fail
        refine (l4Put_any A A' n' c n' c' xs x wr qr.out RI.out HIN.out (by omega)).mono ?_
        rintro e w3 ⟨D3, d3, rfl, o3, hb3⟩
        have r3 := Lib.hid o3.rdS
        have hb03 := hb.trans (hb3.mono hb.size)
        have HB := Lib.hid (fun w => holdsBoth_spec D3 n' d3 (putL xs x) w)
        rw [show bothB (putL xs x) = okO xs x from rfl] at HB
        replace c0 := (hb3.cell (p := ⟨g, i, none⟩) c0lt).trans c0
        replace RI := Lib.hid (RI.out.below hb3)
        replace c0lt := Nat.lt_of_lt_of_le c0lt hb3.size
        clear o3 hb3 HIN qr
        cases hq : okO xs x
        · rw [hq] at HB
          have HE := Lib.hid (HN.out hq)
          clear HY HN hq
          go_wp2_with fail
          refine (HB.out w3 r3.out).mono ?_
          rintro e w4 ⟨rfl, hb4⟩
          have hb04 := hb03.trans (hb4.mono hb03.size)
          clear c0
          go_wp2
          go_roundw
          case rel => exact ⟨i + 1, by go_num, by omega, HE, hb04⟩
          case measure => simp [intOf]; omega
        · rw [hq] at HB
          have HE := Lib.hid (HV.out.trans (HY.out hq))
          clear HY HN hq
          go_wp2_with fail
          refine (HB.out w3 r3.out).mono ?_
          rintro e w4 ⟨rfl, hb4⟩
          have hb04 := hb03.trans (hb4.mono hb03.size)
          have hz4 := hz2.trans (hb04.mono hz2.size)
          replace c0 := (hb4.cell (p := ⟨g, i, none⟩) c0lt).trans c0
          replace RI := Lib.hid (RI.out.below hb4)
          clear hb4
          go_wp2
          go_ret2
          exact ⟨_, _, _, by rw [HE.out]; rfl, by rw [HE.out]; exact RI.out, hz4⟩
      · have hip' : i = p := by omega
        subst hip'
        have HR := Lib.hid (show O = none by rw [HV.out, ← hC.out, List.take_of_length_le (by rw [HL.out]; exact Nat.le_refl _)])
        have o9 := Lib.hid (OwnI.new wr).rd5
        have hz9 := hzr.alloc hzr.size (.cells #[] 3)
        go_wp2
        go_ret2
        exact ⟨_, _, _, by rw [HR.out]; rfl, by rw [HR.out]; exact o9.out, hz9⟩

end Go.Proofs.Ytcgjifklapaeeaa
