/- Plain facts on AssignOrder: what it finds is an order of all tasks; it finds one exactly if some order of the tasks holds; the last one. Condition: the tasks are valid. -/
import Derived.Test.YtcgjifklapaeeaaAsg
namespace Go.Proofs.Ytcgjifklapaeeaa
set_option linter.unusedVariables false

theorem sv_allTv5 {xs : List T} (hs : svB xs = true) : allTv xs := (sv_all hs).2
theorem cons_erase_any {α : Type} {xs : List α} {k : Nat} {x : α} (hx : xs[k]? = some x) : xs.Perm (x :: xs.eraseIdx k) := by
  have hk : k < xs.length := (List.getElem?_eq_some_iff.1 hx).1
  have he : xs[k] = x := (List.getElem?_eq_some_iff.1 hx).2
  have h1 : xs = xs.take k ++ x :: xs.drop (k + 1) := by rw [← he]; simp
  rw [erase_eq]
  exact (List.Perm.of_eq h1).trans List.perm_middle
theorem putL_erase (xs : List T) (L : List Int) (a : Nat) : putL xs (L.eraseIdx a) = (putL xs L).eraseIdx a := by
  rw [erase_eq, erase_eq]
  simp [putL, List.map_take, List.map_drop]
theorem natI_at {n a : Nat} (h : a < n) : (natI n)[a]? = some (a : Int) := by simp [natI, h]
theorem putL_nat {xs : List T} {n : Nat} (hl : xs.length = n) : putL xs (natI n) = xs := by
  apply List.ext_getElem?
  intro i
  by_cases hi : i < n
  · have hx : xs[i]? = some xs[i] := List.getElem?_eq_getElem (by omega)
    rw [putL, List.getElem?_map, natI_at hi, hx]
    simp [hx]
  · rw [List.getElem?_eq_none (by rw [putL_len, natI_len]; omega), List.getElem?_eq_none (by omega)]
theorem lastFrom_spec {ys : List T} {m a : Nat} (h : lastFrom ys m = some a) : lastB ys (a : Int) = true ∧ ∀ j : Nat, a < j → j < m → lastB ys (j : Int) = false := by
  induction m with
  | zero => cases h
  | succ m ih =>
    cases hb : lastB ys (m : Int)
    · rw [lastFrom_no hb] at h
      obtain ⟨h1, h2⟩ := ih h
      refine ⟨h1, fun j ha hj => ?_⟩
      rcases Nat.lt_or_ge j m with hjm | hjm
      · exact h2 j ha hjm
      · rw [show j = m by omega]; exact hb
    · rw [lastFrom_yes hb] at h
      injection h with h
      subst h
      exact ⟨hb, fun j ha hj => by omega⟩
theorem lastFrom_none {ys : List T} {m : Nat} (h : lastFrom ys m = none) : ∀ j : Nat, j < m → lastB ys (j : Int) = false := by
  induction m with
  | zero => intro j hj; omega
  | succ m ih =>
    cases hb : lastB ys (m : Int)
    · rw [lastFrom_no hb] at h
      intro j hj
      rcases Nat.lt_or_ge j m with hjm | hjm
      · exact ih h j hjm
      · rw [show j = m by omega]; exact hb
    · rw [lastFrom_yes hb] at h; cases h
theorem asgF_perm {xs : List T} : ∀ {m : Nat} {L O R : List Int}, L.length = m → asgF xs m L O = some R → ∃ P, R = P ++ O ∧ P.Perm L := by
  intro m
  induction m with
  | zero =>
    intro L O R hl h
    have : L = [] := List.eq_nil_of_length_eq_zero hl
    subst this
    simp only [asgF, Option.some.injEq] at h
    exact ⟨[], by rw [← h]; rfl, List.Perm.refl _⟩
  | succ m ih =>
    intro L O R hl h
    cases hf : lastFrom (putL xs L) (m + 1) with
    | none => rw [asgF_none hf] at h; cases h
    | some a =>
      have ha := lastFrom_lt hf
      have hv : L[a]? = some (L[a]'(by omega)) := List.getElem?_eq_getElem (by omega)
      rw [asgF_some hf hv] at h
      obtain ⟨P, hR, hP⟩ := ih (by rw [List.length_eraseIdx_of_lt (by omega), hl]; rfl) h
      refine ⟨P ++ [L[a]'(by omega)], by rw [hR]; simp, ?_⟩
      exact (List.perm_append_comm.trans (List.Perm.cons _ hP)).trans (cons_erase_any hv).symm
theorem natI_nodup (n : Nat) : (natI n).Nodup := by
  unfold natI
  rw [List.nodup_iff_pairwise_ne, List.pairwise_map]
  exact (List.nodup_iff_pairwise_ne.1 List.nodup_range).imp fun h e => h (by omega)
theorem asg_sv {xs : List T} {O : List Int} (h : asgV xs = some O) : svB xs = true := by
  cases hs : svB xs
  · rw [asgV_no hs] at h; cases h
  · rfl
theorem asg_order {xs : List T} {O : List Int} (h : asgV xs = some O) : ordB xs O = true := by
  have hs := asg_sv h
  rw [← asgV_yes hs rfl] at h
  obtain ⟨P, hR, hP⟩ := asgF_perm (natI_len _) h
  rw [List.append_nil] at hR
  subst hR
  rw [ordB_of rfl hs, isOrd_iff]
  refine ⟨by rw [hP.length_eq, natI_len], fun x hx => natI_in x (hP.mem_iff.1 hx), hP.symm.nodup (natI_nodup _)⟩
theorem asg_len {xs : List T} {O : List Int} (h : asgV xs = some O) : O.length = xs.length := by
  have hs := asg_sv h
  rw [← asgV_yes hs rfl] at h
  obtain ⟨P, hR, hP⟩ := asgF_perm (natI_len _) h
  rw [hR, List.append_nil, hP.length_eq, natI_len]
theorem asg_last {xs : List T} {O : List Int} {k : Nat} (h : asgV xs = some O) (hl : xs.length = k + 1) : ∃ a : Nat, O[k]? = some (a : Int) ∧ a < k + 1 ∧ lastB xs (a : Int) = true ∧ ∀ j : Nat, a < j → j < k + 1 → lastB xs (j : Int) = false := by
  have hs := asg_sv h
  rw [← asgV_yes hs hl] at h
  cases hf : lastFrom (putL xs (natI (k + 1))) (k + 1) with
  | none => rw [asgF_none hf] at h; cases h
  | some a =>
    have ha := lastFrom_lt hf
    have hv := natI_at ha
    rw [asgF_some hf hv] at h
    rw [putL_nat hl] at hf
    obtain ⟨h1, h2⟩ := lastFrom_spec hf
    obtain ⟨P, hR, hP⟩ := asgF_perm (by rw [List.length_eraseIdx_of_lt (by rw [natI_len]; exact ha), natI_len]; rfl) h
    have hPl : P.length = k := by rw [hP.length_eq, List.length_eraseIdx_of_lt (by rw [natI_len]; exact ha), natI_len]; rfl
    refine ⟨a, ?_, ha, h1, h2⟩
    rw [hR, List.getElem?_append_right (by omega), hPl, Nat.sub_self]; rfl

/-- some order holds -/
def Feas (ys : List T) : Prop := ∃ zs, ys.Perm zs ∧ okTo zs zs.length
theorem feas_perm {xs ys : List T} (h : xs.Perm ys) (hf : Feas xs) : Feas ys := by
  obtain ⟨zs, h1, h2⟩ := hf
  exact ⟨zs, h.symm.trans h1, h2⟩
theorem ok_at {zs p s : List T} {x : T} (h : okTo zs zs.length) (e : zs = p ++ x :: s) : endB p x = true := by
  have h1 := h p.length (by rw [e]; simp)
  have hx : zs[p.length]? = some x := by rw [e]; simp
  rw [endV_of hx, e, List.take_left' rfl] at h1
  exact h1
theorem ok_sub {zs ws : List T} (hv : allTv zs) (h : okTo zs zs.length) (hs : ws.Sublist zs) : okTo ws ws.length := by
  intro j hj
  have hx := atT_get hj
  generalize atT ws j = x at *
  have hjx : ws[j] = x := (List.getElem?_eq_some_iff.1 hx).2
  have e : ws = ws.take j ++ x :: ws.drop (j + 1) := by rw [← hjx]; simp
  rw [endV_of hx]
  rw [e] at hs
  obtain ⟨r1, r2, hr, s1, s2⟩ := List.append_sublist_iff.1 hs
  obtain ⟨u1, u2, hu, hm, _⟩ := List.cons_sublist_iff.1 s2
  obtain ⟨v1, v2, hv12⟩ := List.append_of_mem hm
  have hz : zs = (r1 ++ v1) ++ x :: (v2 ++ u2) := by rw [hr, hu, hv12]; simp
  have h1 := ok_at h hz
  refine endB_sub (s1.trans (List.sublist_append_left _ _)) (fun t ht => hv t ?_) (hv x ?_) h1
  · rw [hz]; exact List.mem_append_left _ ht
  · rw [hz]; simp
theorem feas_sub {ys ws : List T} (hv : allTv ys) (hf : Feas ys) (hs : ws.Sublist ys) : Feas ws := by
  obtain ⟨zs, h1, h2⟩ := hf
  obtain ⟨ws', hp, hs'⟩ := List.exists_perm_sublist hs h1
  exact ⟨ws', hp.symm, ok_sub (fun t ht => hv t (h1.mem_iff.2 ht)) h2 hs'⟩
theorem feas_pick {ys : List T} {m : Nat} (hs : svB ys = true) (hl : ys.length = m + 1) (hf : Feas ys) : ∃ a : Nat, a < m + 1 ∧ lastB ys (a : Int) = true := by
  obtain ⟨zs, h1, h2⟩ := hf
  have hz : zs ≠ [] := fun e => by rw [e] at h1; have := h1.length_eq; rw [hl] at this; simp at this
  have e := (List.dropLast_concat_getLast hz).symm
  generalize zs.getLast hz = x at *
  generalize zs.dropLast = p at *
  have h3 := ok_at h2 (s := []) e
  have hxm : x ∈ ys := h1.mem_iff.2 (by rw [e]; simp)
  obtain ⟨a, ha⟩ := List.getElem?_of_mem hxm
  have hal : a < ys.length := (List.getElem?_eq_some_iff.1 ha).1
  refine ⟨a, by omega, ?_⟩
  rw [lastB_yes (plB_nat hs hal) ha, ← h3]
  refine endB_perm x ?_
  refine List.Perm.cons_inv (a := x) ?_
  exact (cons_erase_any ha).symm.trans (h1.trans (by rw [e]; exact List.perm_append_comm))
theorem feas_erase {ys : List T} {a : Nat} (hs : svB ys = true) (ha : a < ys.length) (hb : lastB ys (a : Int) = true) : Feas (ys.eraseIdx a) ↔ Feas ys := by
  constructor
  · rintro ⟨zs, h1, h2⟩
    have hx := atT_get ha
    generalize atT ys a = x at *
    rw [lastB_yes (plB_nat hs ha) hx] at hb
    refine ⟨zs ++ [x], ?_, ?_⟩
    · exact (cons_erase_any hx).trans ((List.Perm.cons x h1).trans (show ([x] ++ zs).Perm (zs ++ [x]) from List.perm_append_comm))
    · rw [List.length_append]
      refine okTo_succ (fun j hj => ?_) ?_
      · have := h2 j hj
        rw [← endV_take (xs := zs ++ [x]) hj, List.take_left' rfl]; exact this
      · have hxl : (zs ++ [x])[zs.length]? = some x := by simp
        rw [endV_of hxl, List.take_left' rfl, ← endB_perm x h1]; exact hb
  · intro hf
    exact feas_sub (sv_allTv5 hs) hf (List.eraseIdx_sublist _ _)
theorem asgF_iff {xs : List T} : ∀ {m : Nat} {L O : List Int}, L.length = m → svB (putL xs L) = true → ((asgF xs m L O).isSome = true ↔ Feas (putL xs L)) := by
  intro m
  induction m with
  | zero =>
    intro L O hl hs
    have : L = [] := List.eq_nil_of_length_eq_zero hl
    subst this
    exact ⟨fun _ => ⟨[], List.Perm.refl _, fun j hj => by simp at hj⟩, fun _ => rfl⟩
  | succ m ih =>
    intro L O hl hs
    have hyl : (putL xs L).length = m + 1 := by rw [putL_len, hl]
    cases hf : lastFrom (putL xs L) (m + 1) with
    | none =>
      rw [asgF_none hf]
      refine ⟨fun h => (by cases h), fun h => ?_⟩
      obtain ⟨a, ha, hb⟩ := feas_pick hs hyl h
      rw [lastFrom_none hf a ha] at hb; cases hb
    | some a =>
      have ha := lastFrom_lt hf
      have hv : L[a]? = some (L[a]'(by omega)) := List.getElem?_eq_getElem (by omega)
      rw [asgF_some hf hv, ih (by rw [List.length_eraseIdx_of_lt (by omega), hl]; rfl) (by rw [putL_erase]; exact sv_sub (List.eraseIdx_sublist _ _) hs), putL_erase]
      exact feas_erase hs (by omega) (lastFrom_spec hf).1
theorem asg_iff {xs : List T} (hs : svB xs = true) : (asgV xs).isSome = true ↔ Feas xs := by
  rw [← asgV_yes hs rfl, asgF_iff (natI_len _) (by rw [putL_nat rfl]; exact hs), putL_nat rfl]
theorem asg_perm {xs ys : List T} (hp : xs.Perm ys) (hs : svB xs = true) : (asgV ys).isSome = (asgV xs).isSome := by
  rw [Bool.eq_iff_iff, asg_iff hs, asg_iff (sv_perm hp hs)]
  exact ⟨feas_perm hp.symm, feas_perm hp⟩
theorem asg_sub {xs ys : List T} (hsub : ys.Sublist xs) (h : (asgV xs).isSome = true) : (asgV ys).isSome = true := by
  obtain ⟨O, hO⟩ := Option.isSome_iff_exists.1 h
  have hs := asg_sv hO
  exact (asg_iff (sv_sub hsub hs)).2 (feas_sub (sv_allTv5 hs) ((asg_iff hs).1 h) hsub)
end Go.Proofs.Ytcgjifklapaeeaa
