/- The contract of SortDue, of the program: the same tasks in some order. Condition: the tasks are valid. -/
import Derived.Test.YtdafioafbgkilaaDel
import Derived.Test.YtdafioafbgkilaaShare
import Derived.Test.YtdafioafbgkilaaRise
import Derived.Deep.RegionHeld3
namespace Go.Proofs.Ytdafioafbgkilaa
open Go.RowKit
set_option linter.unusedVariables false

def orI (a b : Int) : Int := if a = 0 then b else a
def cmpT (x y : T) : Int := orI (cmpI x.due y.due) (cmpI x.every y.every)
set_option maxHeartbeats 1600000 in
theorem cmpOr2 (A : Option Addr) (c : Nat) (a b : Int) (w : World) (h : RdI w A 2 c [a, b]) :
    Calls Try.prog 59 #[.slice A 2 c] w fun e w' => e = .returned (.int .i64 (orI a b)) ∧ Below w.heap.size w w' := by
  have q0 := Lib.hid h
  clear h
  go_enter Try.func59, Try.ntmps59
  go_wp2_with fail
  go_loopw [8] (fun i wr => ∃ k : Nat, i = .int .i64 k ∧ k ≤ 2 ∧ (0 < k → a = 0) ∧ (1 < k → b = 0) ∧ Below w.heap.size w wr) (fun i _ => 2 - (intOf i).toNat)
  case atStart => exact ⟨0, rfl, by omega, fun h => by omega, fun h => by omega, Below.refl _ _⟩
  case round =>
    obtain ⟨k, rfl, hk, h0, h1, hbel⟩ := hrel
    by_cases hk2 : k < 2
    · obtain ⟨bb, off, x, rfl, hx, hlt, c0⟩ := (q0.out.below hbel).intAt hk2
      have HX := Lib.hid hx
      have H0 := Lib.hid h0
      have i0 : (0 : Int) ≤ (k : Int) := by omega
      have i1 : (k : Int) < 2 := by omega
      clear hx h0 h1
      by_cases hx0 : x = 0
      · subst hx0
        have hb : ((0 : Int) != 0) = false := by decide
        go_wp2
        go_roundw
        case rel =>
          refine ⟨k + 1, by go_num, by omega, fun _ => ?_, fun _ => ?_, hbel⟩
          · rcases Nat.eq_zero_or_pos k with hk0 | hk0
            · subst hk0; have := HX.out; simp at this; exact this
            · exact H0.out hk0
          · have hk1 : k = 1 := by omega
            subst hk1; have := HX.out; simp at this; exact this
        case measure => simp [intOf]; omega
      · have hb : (x != 0) = true := by simpa using hx0
        have HR := Lib.hid (show orI a b = x by
          rcases Nat.eq_zero_or_pos k with hk0 | hk0
          · subst hk0; have := HX.out; simp at this; subst this; simp [orI, hx0]
          · have ha := H0.out hk0
            have hk1 : k = 1 := by omega
            subst hk1; have := HX.out; simp at this; subst this; simp [orI, ha])
        clear hx0
        go_wp2
        go_ret
        exact ⟨ret_int HR.out.symm, hbel⟩
    · have HR := Lib.hid (show orI a b = 0 by
        have ha := h0 (by omega)
        have hb := h1 (by omega)
        simp [orI, ha, hb])
      clear h0 h1
      go_wp2
      go_ret
      exact ⟨ret_int HR.out.symm, hbel⟩

set_option maxRecDepth 100000 in
set_option maxHeartbeats 3200000 in
theorem cmp_closure (x y : T) (w : World) :
    Calls Try.prog 58 #[.agg #[.int .i64 x.low, .int .i64 x.high, .int .i64 x.due, .int .i64 x.every, .bool x.crit], .agg #[.int .i64 y.low, .int .i64 y.high, .int .i64 y.due, .int .i64 y.every, .bool y.crit]] w fun e w' => e = .returned (.int .i64 (cmpT x y)) ∧ Below w.heap.size w w' := by
  obtain ⟨x0, x1, x2, x3, x4⟩ := x
  obtain ⟨y0, y1, y2, y3, y4⟩ := y
  dsimp only
  obtain ⟨W, hW⟩ : ∃ W, W = (w.alloc (.cells #[.int .i64 x0, .int .i64 x1, .int .i64 x2, .int .i64 x3, .bool x4] 48)).alloc (.cells #[.int .i64 y0, .int .i64 y1, .int .i64 y2, .int .i64 y3, .bool y4] 48) := ⟨_, rfl⟩
  have bx : Blk W w.heap.size 48 #[.int .i64 x0, .int .i64 x1, .int .i64 x2, .int .i64 x3, .bool x4] := by rw [hW]; exact (Blk.new w _ _).alloc _
  have by' : Blk W (w.heap.size + 1) 48 #[.int .i64 y0, .int .i64 y1, .int .i64 y2, .int .i64 y3, .bool y4] := by
    rw [hW]
    have := Blk.new (w.alloc (.cells #[.int .i64 x0, .int .i64 x1, .int .i64 x2, .int .i64 x3, .bool x4] 48)) 48 #[.int .i64 y0, .int .i64 y1, .int .i64 y2, .int .i64 y3, .bool y4]
    simpa using this
  have hbW : Below w.heap.size w W := by rw [hW]; exact ((Below.refl _ _).alloc (Nat.le_refl _) _).alloc (by simp) _
  have lx := bx.lt
  have ly := by'.lt
  have c0 : W.cell? ⟨w.heap.size, 2, none⟩ = some (.int .i64 x2) := bx.cell (i := 2) rfl
  have c1 : W.cell? ⟨w.heap.size, 3, none⟩ = some (.int .i64 x3) := bx.cell (i := 3) rfl
  have c2 : W.cell? ⟨w.heap.size + 1, 2, none⟩ = some (.int .i64 y2) := by'.cell (i := 2) rfl
  have c3 : W.cell? ⟨w.heap.size + 1, 3, none⟩ = some (.int .i64 y3) := by'.cell (i := 3) rfl
  have hK : ∀ w', Below W.heap.size W w' → w'.cell? ⟨w.heap.size, 2, none⟩ = some (.int .i64 x2) ∧ w'.cell? ⟨w.heap.size, 3, none⟩ = some (.int .i64 x3) ∧ w'.cell? ⟨w.heap.size + 1, 2, none⟩ = some (.int .i64 y2) ∧ w'.cell? ⟨w.heap.size + 1, 3, none⟩ = some (.int .i64 y3) := fun w' hB =>
    ⟨(hB.cell (p := ⟨w.heap.size, 2, none⟩) lx).trans c0, (hB.cell (p := ⟨w.heap.size, 3, none⟩) lx).trans c1, (hB.cell (p := ⟨w.heap.size + 1, 2, none⟩) ly).trans c2, (hB.cell (p := ⟨w.heap.size + 1, 3, none⟩) ly).trans c3⟩
  clear bx by' c0 c1 c2 c3
  have h1 := Lib.hid (fun w => cmpCompare_any x2 y2 w)
  have h2 := Lib.hid (fun w => cmpCompare_any x3 y3 w)
  have hR := Lib.hid (show orI (cmpI x2 y2) (cmpI x3 y3) = cmpT ⟨x0, x1, x2, x3, x4⟩ ⟨y0, y1, y2, y3, y4⟩ from rfl)
  generalize cmpT ⟨x0, x1, x2, x3, x4⟩ ⟨y0, y1, y2, y3, y4⟩ = res at *
  generalize cmpI x2 y2 = p at *
  generalize cmpI x3 y3 = q at *
  have h3 := Lib.hid (fun (w : World) => cmpOr2 (some ⟨w.heap.size, 0, none⟩) 2 p q (w.alloc (.cells #[.int .i64 p, .int .i64 q] 3)) (rdI_new w 3 #[.int .i64 p, .int .i64 q] w.heap.size [p, q] rfl rfl 2 rfl (by decide)))
  rw [hR.out] at h3
  clear hR
  go_enter Try.func58, Try.ntmps58
  go_wp2_with fail
  rw [← hW]
  clear hW
  go_region_held3 (fun w' => w'.cell? ⟨w.heap.size, 2, none⟩ = some (.int .i64 x2) ∧ w'.cell? ⟨w.heap.size, 3, none⟩ = some (.int .i64 x3) ∧ w'.cell? ⟨w.heap.size + 1, 2, none⟩ = some (.int .i64 y2) ∧ w'.cell? ⟨w.heap.size + 1, 3, none⟩ = some (.int .i64 y3))
    (first
      | exact hK _ (Below.refl _ _)
      | exact hK _ (Below.refl _ _).drew
      | exact hK _ B5
      | exact hK _ (B4.alloc B4.size _)
      | exact hK _ B4
      | exact hK _ B3)
    (first
      | (go_at_call 59; with_reducible refine (h3.out w4).mono ?_; rintro e w5 ⟨rfl, hb5⟩; have B5 : Below W.heap.size W w5 := (B4.alloc B4.size _).trans (hb5.mono (Nat.le_trans B4.size (by simp))))
      | (go_at_call 60; with_reducible refine (h2.out _).mono ?_; rintro e w4 ⟨rfl, hb4⟩; have B4 : Below W.heap.size W w4 := B3.trans (hb4.mono B3.size))
      | (go_at_call 60; with_reducible refine (h1.out _).mono ?_; rintro e w3 ⟨rfl, hb3⟩; have B3 : Below W.heap.size W w3 := (by first | exact hb3 | exact ((Below.refl _ _).drew).trans (hb3.mono (Nat.le_refl _)))))
  all_goals
    go_wp2_with fail
    go_ret
    exact ⟨rfl, hbW.trans (B5.mono hbW.size)⟩

theorem step_storeRow {P : Program} {w : World} {ops : Array Oper} {o : Oper} {a : Act} {K : Act → World → Prop} {Q : Exit → Act → World → Prop} {E : Prop} (hgd : o.guard = none) (t : TypeId) (x y : Operand) (ho : o.op = .store t x y)
    (cells : Array Value) (hi : (P.info? t).map (·.size) = some cells.size) (g p : Nat) (hx : a.eval x = .pointer (some ⟨g, p, none⟩)) (hy : a.eval y = .agg cells)
    (hc : ∀ j, j < cells.toList.length → (w.cell? ⟨g, p + j, none⟩).isSome = true) (hf : ∀ j, j < cells.toList.length → w.frozen? ⟨g, p + j, none⟩ = false) (h1 : ∀ v ∈ cells.toList, v.oneCell' = true)
    (h : K (a.put o.dst undef) (w.setCells g p cells.toList)) :
    if Region.wanted o (yielded ops a.tmps) = true then Oper.wp P o a w K Q else E := by
  have hw : Region.wanted o (yielded ops a.tmps) = true := by simp [Region.wanted, hgd]
  rw [if_pos hw]
  have hst := run_storeCells_cells (P := P) g p cells.toList 0 w (by simpa using hc) (by simpa using hf) h1
  simp only [Nat.add_zero] at hst
  have hv : (storeVar t ⟨g, p, none⟩ (.agg cells)).run P w = .ok () (w.setCells g p cells.toList) := by
    cases hq : P.info? t with
    | none => simp [hq] at hi
    | some i =>
      have hs : cells.size = i.size := by simp [hq] at hi; omega
      simp [storeVar, sizeOf, typeInfo, hq, Value.cells, hs, hst]
  unfold Oper.wp execOp
  simp only [ho, hx, hy, Instr.storeAt, Instr.sureAddr, Sem.run_bind, Sem.run_pure, Result.andThen_ok, hv]
  exact h

theorem swap_perm {α : Type} {zs : List α} {j : Nat} {x y : α} (hx : zs[j + 1]? = some x) (hy : zs[j]? = some y) : zs.Perm ((zs.set (j + 1) y).set j x) := by
  induction zs generalizing j with
  | nil => simp at hx
  | cons z zs ih =>
    cases j with
    | zero =>
      cases zs with
      | nil => simp at hx
      | cons z2 zs =>
        simp at hx hy
        subst hx hy
        exact List.Perm.swap _ _ _
    | succ j =>
      simp only [List.set_cons_succ]
      exact List.Perm.cons _ (ih (by simpa using hx) (by simpa using hy))

theorem OwnT.drewS {u w : World} {v : Value} {n : Nat} {xs : List T} (h : OwnT u w v n xs) : OwnT u w.drew v n xs := ⟨own_drew h.1, h.2⟩
set_option maxRecDepth 100000 in
set_option maxHeartbeats 6400000 in
theorem insertion_tasks (u w : World) (A : Option Addr) (n c : Nat) (xs : List T) (h : OwnT u w (.slice A n c) n xs) (hn : n ≤ 5) :
    Calls Try.prog 79 #[.slice A n c, .int .i64 0, .int .i64 n, .func (.func 58) #[] #[]] w fun e w' => e = .returned (.tuple #[]) ∧ ∃ ys, OwnT u w' (.slice A n c) n ys ∧ xs.Perm ys ∧ Below u.heap.size w w' := by
  have o0 := Lib.hid h
  have hcmp := Lib.hid (fun x y w => cmp_closure x y w)
  have hszT : (Try.prog.info? 48).map (·.size) = some 5 := by kernel_rfl
  clear h
  go_enter Try.func79, Try.ntmps79
  go_wp2_with fail
  go_loopw [8] (fun i wr => ∃ (a : Nat) (ys : List T), i = .int .i64 a ∧ 1 ≤ a ∧ (a ≤ n ∨ a = 1) ∧ Hid (OwnT u wr (.slice A n c) n ys) ∧ Hid (xs.Perm ys) ∧ Below u.heap.size w wr) (fun i _ => n + 1 - (intOf i).toNat)
  case atStart => exact ⟨1, xs, by go_num, Nat.le_refl _, Or.inr rfl, o0, Lib.hid (List.Perm.refl _), Below.refl _ _⟩
  case round =>
    obtain ⟨a, ys, rfl, ha1, ha2, ho, hp, hb⟩ := hrel
    clear o0
    by_cases han : a < n
    · obtain ⟨g, rfl, hug⟩ : ∃ g, A = some ⟨g, 0, none⟩ ∧ u.heap.size ≤ g := by
        rcases ho.out.form with ⟨_, h0⟩ | ⟨g, c', e, hg⟩
        · omega
        · injection e with e1; exact ⟨g, e1, hg⟩
      clear ha2
      have a0 : (0 : Int) ≤ (a : Int) := by omega
      go_wp2_with fail
      go_loopw [9] (fun jv wr2 => ∃ (j : Nat) (zs : List T), jv = .int .i64 j ∧ j ≤ a ∧ Hid (OwnT u wr2 (.slice (some ⟨g, 0, none⟩) n c) n zs) ∧ Hid (xs.Perm zs) ∧ Below u.heap.size w wr2) (fun jv _ => (intOf jv).toNat)
      case atStart => exact ⟨a, ys, rfl, Nat.le_refl _, ho, hp, hb⟩
      case round =>
        obtain ⟨j, zs, rfl, hj, oZ, hP, hbz⟩ := hrel
        clear ho hp hb
        rcases Nat.eq_zero_or_pos j with hj0 | hj1
        · subst hj0
          go_wp2_with fail
          refine wp_region_quiet_below (by kernel_rfl) (by kernel_rfl) ?_
          repeat (go_big_quiet_step ((fail)))
          refine wpQuiet_nil ?_
          intro w6 hwq
          have hbq := below_of_regrown hwq
          clear hwq
          have oE := Lib.hid (oZ.out.belowS hbq)
          have hbE := hbz.trans (hbq.mono (Nat.le_trans (Nat.le_of_lt (Nat.lt_of_le_of_lt hug (oZ.out.1.lt _ rfl).2)) (Nat.le_refl _)))
          clear hbq oZ hbz
          go_wp2
          go_roundw
          case rel => exact ⟨a + 1, _, by go_num, by omega, Or.inl (by omega), oE, hP, hbE⟩
          case measure => simp [intOf]; omega
        · obtain ⟨j, rfl⟩ : ∃ j', j = j' + 1 := ⟨j - 1, by omega⟩
          have hgl := (oZ.out.1.lt _ rfl).2
          obtain ⟨b1, f1, x, hA, hx, hbx, c0, c1, c2, c3, c4⟩ := oZ.out.rdS.taskAt (i := j + 1) (by omega)
          injection hA with hA
          injection hA with hA1 hA2
          subst hA1 hA2
          obtain ⟨b1, f1, y, hA, hy, hby, d0, d1, d2, d3, d4⟩ := oZ.out.rdS.taskAt (i := j) (by omega)
          injection hA with hA
          injection hA with hA1 hA2
          subst hA1 hA2
          simp only [Nat.zero_add] at c0 c1 c2 c3 c4 d0 d1 d2 d3 d4
          have hsw := Lib.hid (swap_perm hx hy)
          have HJ := Lib.hid (show j + 1 < n by omega)
          have HX := Lib.hid hx
          have HY := Lib.hid hy
          have hC := Lib.hid (fun w => hcmp.out x y w)
          generalize hcv : cmpT x y = cv at *
          have E0 := cell_regrown c0
          have E1 := cell_regrown c1
          have E2 := cell_regrown c2
          have E3 := cell_regrown c3
          have E4 := cell_regrown c4
          have F0 := cell_regrown d0
          have F1 := cell_regrown d1
          have F2 := cell_regrown d2
          have F3 := cell_regrown d3
          have F4 := cell_regrown d4
          have j0 : (0 : Int) ≤ (j : Int) := by omega
          have j1 : (j : Int) + 1 < (n : Int) := by omega
          have j2 : (j : Int) < (n : Int) := by omega
          have j3 : (0 : Int) ≤ (j : Int) + 1 := by omega
          clear hx hy hcv c0 c1 c2 c3 c4 d0 d1 d2 d3 d4
          cases hq : decide (cv < 0)
          · go_wp2_with fail
            refine wp_region_quiet_below (by kernel_rfl) (by kernel_rfl) ?_
            repeat (go_big_quiet_step ((go_at_call 58; with_reducible exact Calls.regrown_of (hC.out _))))
            refine wpQuiet_nil ?_
            intro w6 hwq
            have hbq := below_of_regrown hwq
            clear hwq
            have oE := Lib.hid (oZ.out.belowS hbq)
            have hbE := hbz.trans (hbq.mono (Nat.le_of_lt (Nat.lt_of_le_of_lt hug hgl)))
            clear hbq oZ hbz E0 E1 E2 E3 E4 F0 F1 F2 F3 F4
            go_wp2
            go_roundw
            case rel => exact ⟨a + 1, _, by go_num, by omega, Or.inl (by omega), oE, hP, hbE⟩
            case measure => simp [intOf]; omega
          · go_wp2_with fail
            refine wp_region_quiet_below (by kernel_rfl) (by kernel_rfl) ?_
            repeat (go_big_quiet_step ((go_at_call 58; with_reducible exact Calls.regrown_of (hC.out _))))
            refine wpQuiet_nil ?_
            intro w6 hwq
            have hbq := below_of_regrown hwq
            clear hwq
            have oE := Lib.hid (oZ.out.belowS hbq)
            have hbE := hbz.trans (hbq.mono (Nat.le_of_lt (Nat.lt_of_le_of_lt hug hgl)))
            clear hbq oZ hbz E0 E1 E2 E3 E4 F0 F1 F2 F3 F4
            go_wp2_with fail
            obtain ⟨b1, f1, x', hA, hx', hbx, c0, c1, c2, c3, c4⟩ := oE.out.rdS.taskAt (i := j + 1) (by omega)
            injection hA with hA
            injection hA with hA1 hA2
            subst hA1 hA2
            rw [HX.out] at hx'
            injection hx' with hx'
            subst hx'
            obtain ⟨b1, f1, y', hA, hy', hby, d0, d1, d2, d3, d4⟩ := oE.out.rdS.taskAt (i := j) (by omega)
            injection hA with hA
            injection hA with hA1 hA2
            subst hA1 hA2
            rw [HY.out] at hy'
            injection hy' with hy'
            subst hy'
            simp only [Nat.zero_add] at c0 c1 c2 c3 c4 d0 d1 d2 d3 d4
            have e0 : (0 : Int) ≤ (j : Int) := by omega
            have e1 : (j : Int) + 1 < (n : Int) := by have := HJ.out; omega
            have e2 : (j : Int) < (n : Int) := by have := HJ.out; omega
            have e3 : (0 : Int) ≤ (j : Int) + 1 := by omega
            have e5 : IntKind.i64.wrap ((j : Int) + 1 - 1) = (j : Int) := by rw [Int.add_sub_cancel]; exact IntWalk.i64_in _ (by omega)
            have e6 : IntKind.i64.wrap (j : Int) = (j : Int) := IntWalk.i64_in _ (by omega)
            have hmul : (j + 1) * 5 = j * 5 + 5 := by omega
            have oS := (oE.out.set_ (j + 1) (by omega) y).set_ j (by omega) x
            rw [hmul] at c0 c1 c2 c3 c4 oS
            replace c1 : w6.cell? ⟨g, j * 5 + 6, none⟩ = _ := c1
            replace c2 : w6.cell? ⟨g, j * 5 + 7, none⟩ = _ := c2
            replace c3 : w6.cell? ⟨g, j * 5 + 8, none⟩ = _ := c3
            replace c4 : w6.cell? ⟨g, j * 5 + 9, none⟩ = _ := c4
            have OS := Lib.hid oS
            have fx0 := oE.out.1.frozenAt (j * 5 + 5)
            have fx1 := oE.out.1.frozenAt (j * 5 + 6)
            have fx2 := oE.out.1.frozenAt (j * 5 + 7)
            have fx3 := oE.out.1.frozenAt (j * 5 + 8)
            have fx4 := oE.out.1.frozenAt (j * 5 + 9)
            have fy0 := oE.out.1.frozenAt (j * 5)
            have fy1 := oE.out.1.frozenAt (j * 5 + 1)
            have fy2 := oE.out.1.frozenAt (j * 5 + 2)
            have fy3 := oE.out.1.frozenAt (j * 5 + 3)
            have fy4 := oE.out.1.frozenAt (j * 5 + 4)
            have hbS := ((((((((((hbE.setCell (p := ⟨g, j * 5 + 5, none⟩) hug (.int .i64 y.low)).setCell (p := ⟨g, j * 5 + 5 + 1, none⟩) hug (.int .i64 y.high)).setCell (p := ⟨g, j * 5 + 5 + 2, none⟩) hug (.int .i64 y.due)).setCell (p := ⟨g, j * 5 + 5 + 3, none⟩) hug (.int .i64 y.every)).setCell (p := ⟨g, j * 5 + 5 + 4, none⟩) hug (.bool y.crit)).setCell (p := ⟨g, j * 5, none⟩) hug (.int .i64 x.low)).setCell (p := ⟨g, j * 5 + 1, none⟩) hug (.int .i64 x.high)).setCell (p := ⟨g, j * 5 + 2, none⟩) hug (.int .i64 x.due)).setCell (p := ⟨g, j * 5 + 3, none⟩) hug (.int .i64 x.every)).setCell (p := ⟨g, j * 5 + 4, none⟩) hug (.bool x.crit))
            have HbS := Lib.hid hbS
            clear hbS oS oE hbE
            go_region
            all_goals
              go_wp2
              go_roundw
              case rel =>
                refine ⟨j, _, rfl, by omega, Lib.hid (OwnT.drewS OS.out), Lib.hid (hP.out.trans hsw.out), ?_⟩
                exact HbS.out.drew
              case measure => simp [intOf]
    · go_wp2
      go_end0
      exact ⟨rfl, ys, ho.out, hp.out, hb⟩

end Go.Proofs.Ytdafioafbgkilaa
