/- How arguments that came in read: slices of tasks, jobs and numbers, opened to lists. No condition; plain lemmas over this seat's types. -/
import Derived.Test.YtbfdpegjflhboaaRows
import Derived.Test.YtbfdpegjflhboaaOwn
import Derived.ProofKit
import Derived.OpenShut
import Derived.ChangeOld
import Derived.Deep.Slices
import Derived.Lib.SmallJoins
namespace Go.Proofs.Ytbfdpegjflhboaa
open Go.ChangeShapes Go.WideShapes Go.ChangeAt Go.RowKit Go.Deep
set_option linter.unusedVariables false

theorem ownKnob_none : ownKnob Try.prog.godebug = none := by kernel_rfl
theorem laidOut : laidOutB Try.prog = true := by kernel_rfl

section
variable {H : Type} {enc : TypeId × Value → H} {w : World} {base : Nat} {spare : Nat → Bool} {held : Bool} {fuel : Nat} {cs : List Value} {x : DataW H × List MemPlace}

theorem spot_none {a : Addr} {v : Value} (h : w.cell? a = some v) : a = ⟨a.block, a.off, none⟩ := by
  obtain ⟨b, o, s⟩ := a
  have := World.cell?_spot h
  dsimp only at this
  subst this
  rfl

theorem cellsTask : Try.prog.cellsOf 47 = 5 := by kernel_rfl
theorem open_tasks (h : DataW.trod enc Try.prog w base spare held fuel 32 cs = some x) : ∃ A n c xs, cs = [.slice A n c] ∧ RdT w A n c xs := by
  rcases open_slice Try.underlying32 h with ⟨hcs, _⟩ | ⟨a, len, cap, m, n, D, Pl, hcs, hb, hl, hm, hmm, hx, hi⟩
  · exact ⟨none, 0, 0, [], hcs, Rd.nil (Nat.zero_le _)⟩
  have hlm : len ≤ m := by rw [hmm]; split <;> omega
  have each : ∀ i, i < len → ∃ t : T, ∀ j u, t.cells[j]? = some u → w.cell? (a.add (i * 5 + j)) = some u := by
    intro i hil
    obtain ⟨cs', h1, h2⟩ := hi i (by omega)
    rw [cellsTask] at h1
    obtain ⟨_, hlen, hcell⟩ := World.cells?_some h1
    obtain ⟨ys, k, hk, hxy, _, hyl, hf⟩ := DataW.trod_struct Try.underlying47 h2
    match cs', hlen with
    | [v0, v1, v2, v3, v4], _ =>
      obtain ⟨y0, e0, _⟩ := DataW.trod_int Try.underlying3 ((hf 0 _ rfl).trans (List.getElem?_eq_getElem (by rw [hyl]; decide)))
      obtain ⟨y1, e1, _⟩ := DataW.trod_int Try.underlying3 ((hf 1 _ rfl).trans (List.getElem?_eq_getElem (by rw [hyl]; decide)))
      obtain ⟨y2, e2, _⟩ := DataW.trod_int Try.underlying3 ((hf 2 _ rfl).trans (List.getElem?_eq_getElem (by rw [hyl]; decide)))
      obtain ⟨y3, e3, _⟩ := DataW.trod_int Try.underlying3 ((hf 3 _ rfl).trans (List.getElem?_eq_getElem (by rw [hyl]; decide)))
      obtain ⟨y4, e4, _⟩ := DataW.trod_bool Try.underlying4 ((hf 4 _ rfl).trans (List.getElem?_eq_getElem (by rw [hyl]; decide)))
      have g0 : v0 = .int .i64 y0 := by have : [v0] = [.int .i64 y0] := e0; simpa using this
      have g1 : v1 = .int .i64 y1 := by have : [v1] = [.int .i64 y1] := e1; simpa using this
      have g2 : v2 = .int .i64 y2 := by have : [v2] = [.int .i64 y2] := e2; simpa using this
      have g3 : v3 = .int .i64 y3 := by have : [v3] = [.int .i64 y3] := e3; simpa using this
      have g4 : v4 = .bool y4 := by have : [v4] = [.bool y4] := e4; simpa using this
      subst g0 g1 g2 g3 g4
      refine ⟨⟨y0, y1, y2, y3, y4⟩, fun j u hu => ?_⟩
      have hj : j < 5 := (List.getElem?_eq_some_iff.1 hu).1
      have h3 := hcell j hj
      rw [add_add] at h3
      rw [h3]
      exact hu
  obtain ⟨q, hq⟩ := choose_lt each
  refine ⟨some a, len, cap, (List.range len).map q, hcs, ⟨by simp, hl, hm, fun h0 => ?_⟩⟩
  have hs := spot_none (hq 0 h0 0 _ rfl)
  have ha : a = ⟨a.block, a.off, none⟩ := by
    have h1 := hq 0 h0 0 _ rfl
    have h2 : a.add (0 * 5 + 0) = a := by simp [Addr.add]
    rw [h2] at h1
    exact spot_none h1
  refine ⟨a.block, a.off, by rw [← ha], fun i t ht j u hu => ?_⟩
  have hil : i < len := by have := (List.getElem?_eq_some_iff.1 ht).1; simpa using this
  have e : t = q i := by simp [hil] at ht; exact ht.symm
  subst e
  have h1 := hq i hil j u hu
  rw [ha, Addr.add_lit] at h1
  rw [Nat.add_assoc]
  exact h1


theorem open_ilist (h : DataW.trod enc Try.prog w base spare held fuel 54 cs = some x) : ∃ A n c xs, cs = [.slice A n c] ∧ RdI w A n c xs := by
  rcases open_ints Try.underlying54 Try.underlying3 (by kernel_rfl) h with ⟨hcs, _⟩ | ⟨a, len, cap, zs, hcs, _, hl, hm, hz, hx, hcell, hwz⟩
  · exact ⟨none, 0, 0, [], hcs, Rd.nil (Nat.zero_le _)⟩
  have hzl : len ≤ zs.length := by rw [hz]; split <;> omega
  refine ⟨some a, len, cap, zs.take len, hcs, ⟨by rw [List.length_take]; omega, hl, hm, fun h0 => ?_⟩⟩
  have ha : a = ⟨a.block, a.off, none⟩ := by
    have h1 := hcell 0 (by omega)
    have h2 : a.add 0 = a := by simp [Addr.add]
    rw [h2] at h1
    exact spot_none h1
  refine ⟨a.block, a.off, by rw [← ha], fun i t ht j u hu => ?_⟩
  have hil : i < len := by have := (List.getElem?_eq_some_iff.1 ht).1; rw [List.length_take] at this; omega
  have hj : j = 0 := by have : j < 1 := (List.getElem?_eq_some_iff.1 hu).1; omega
  subst hj
  rw [List.getElem?_take, if_pos hil] at ht
  have h1 := hcell i (by omega)
  rw [ha, Addr.add_lit, List.getD_eq_getElem?_getD, ht] at h1
  rw [Nat.mul_one, Nat.add_zero, h1]
  exact hu

theorem open_bytes (h : DataW.trod enc Try.prog w base spare held fuel 22 cs = some x) : ∃ A n c xs, cs = [.slice A n c] ∧ RdB w A n c xs := by
  rcases open_ints Try.underlying22 Try.underlying5 (by kernel_rfl) h with ⟨hcs, _⟩ | ⟨a, len, cap, zs, hcs, _, hl, hm, hz, hx, hcell, hwz⟩
  · exact ⟨none, 0, 0, [], hcs, Rd.nil (Nat.zero_le _)⟩
  have hzl : len ≤ zs.length := by rw [hz]; split <;> omega
  refine ⟨some a, len, cap, (zs.take len).map (fun z => UInt8.ofNat z.toNat), hcs, ⟨by rw [List.length_map, List.length_take]; omega, hl, hm, fun h0 => ?_⟩⟩
  have ha : a = ⟨a.block, a.off, none⟩ := by
    have h1 := hcell 0 (by omega)
    have h2 : a.add 0 = a := by simp [Addr.add]
    rw [h2] at h1
    exact spot_none h1
  refine ⟨a.block, a.off, by rw [← ha], fun i t ht j u hu => ?_⟩
  have hil : i < len := by have := (List.getElem?_eq_some_iff.1 ht).1; rw [List.length_map, List.length_take] at this; omega
  have hj : j = 0 := by have : j < 1 := (List.getElem?_eq_some_iff.1 hu).1; omega
  subst hj
  have hg : zs[i]? = some (zs[i]'(by omega)) := List.getElem?_eq_getElem (by omega)
  rw [List.getElem?_map, List.getElem?_take, if_pos hil, hg] at ht
  simp only [Option.map_some, Option.some.injEq] at ht
  have hb : 0 ≤ zs[i]'(by omega) ∧ zs[i]'(by omega) ≤ 255 := by
    have h1 := hwz _ (List.getElem_mem (l := zs) (n := i) (by omega))
    simp only [Lit.wf, Bool.and_eq_true, decide_eq_true_eq] at h1
    exact h1
  have h1 := hcell i (by omega)
  rw [ha, Addr.add_lit, List.getD_eq_getElem?_getD, hg] at h1
  rw [Nat.mul_one, Nat.add_zero, h1, ← hu, ← ht]
  simp only [bcells, Option.getD_some, List.getElem?_cons_zero, Option.some.injEq, Value.int.injEq, true_and, UInt8.toNat_ofNat']
  omega
end

end Go.Proofs.Ytbfdpegjflhboaa
