/- Plain: what a line is read as is short enough to be written. -/
import Derived.Test.YtkkildkleleppaaGreatDoorJ31
namespace Go.Proofs.YtkkildkleleppaaGreatDoor

theorem in64_num {n : Int} (h : 0 ≤ n ∧ n ≤ 999999999) : In64 n := ⟨by omega, by omega⟩
theorem in64_zero : In64 0 := ⟨by decide, by decide⟩
theorem FitC.event {ek ec es : Int} {sql : ByteArray} {ps : List V} (h1 : In64 ec) (h2 : In64 es) (h3 : sql.size ≤ 2000000) (h4 : ps.length ≤ 1100000) (h5 : fitVs ps) (h6 : (litsT ps).length ≤ 20000000) : FitC (C.event ek ec es sql ps) :=
  ⟨h1, h2, in64_zero, in64_zero, (by intro x hx; cases hx), by simp [C.event], h3, h4, h5, h6, by simp [C.event], (by intro x hx; cases hx), (by intro x hx; cases hx), by simp [C.event, textS, flatT]⟩
theorem FitC.act_ {ak n : Int} {lg : Bool} {ch : List Int} (h1 : In64 n) (h2 : ∀ x ∈ ch, In64 x) (h3 : ch.length ≤ 1100000) : FitC (C.act ak n lg ch) :=
  ⟨in64_zero, in64_zero, h1, in64_zero, h2, h3, by simp [C.act], by simp [C.act], (by intro x hx; cases hx), by simp [C.act, litsT], by simp [C.act], (by intro x hx; cases hx), (by intro x hx; cases hx), by simp [C.act, textS, flatT]⟩
theorem FitC.of_ {k conn : Int} {told : List T} (h1 : In64 conn) (h2 : told.length ≤ 1100000) (h3 : ∀ t ∈ told, t.ps.length ≤ 1100000) (h4 : fitTs told) (h5 : (textS told).length ≤ 20000000) : FitC (C.of k conn told) :=
  ⟨in64_zero, in64_zero, in64_zero, h1, (by intro x hx; cases hx), by simp [C.of], by simp [C.of], by simp [C.of], (by intro x hx; cases hx), by simp [C.of, litsT], h2, h3, h4, h5⟩
theorem num_shorter {s s' : St} {n : Int} (h : numS s = some (n, s')) : (joinS s').length ≤ (joinS s).length := by
  rw [(num_join h).1, List.length_append]
  omega
theorem tailR_fit {t : Nat} {s s' : St} {z : ByteArray × List V} (h : tailR t s = some (z, s')) : fitVs z.2 ∧ z.1.size ≤ (joinS s).length ∧ (litsT z.2).length ≤ (joinS s).length := by
  match t, h with
  | 0, h =>
    simp only [tailR, Option.some.injEq, Prod.mk.injEq] at h
    rw [← h.1]
    exact ⟨(by intro x hx; cases hx), by simp, by simp [litsT]⟩
  | 1, h =>
    simp only [tailR] at h
    cases ha : allS s with
    | none => rw [ha] at h; cases h
    | some x =>
      rw [ha] at h
      cases h
      have h1 := (all_join (x := x.1) (s' := x.2) ha).1
      refine ⟨(by intro x hx; cases hx), ?_, by simp [litsT]⟩
      rw [h1]
      simp [ByteArray.size]
  | 2, h =>
    simp only [tailR] at h
    cases hv : valsS s with
    | none => rw [hv] at h; cases h
    | some y =>
      rw [hv] at h
      simp only at h
      cases ha : allS y.2 with
      | none => rw [ha] at h; cases h
      | some x =>
        rw [ha] at h
        cases h
        obtain ⟨j1, -, j3⟩ := vals_join (vs := y.1) (s' := y.2) hv
        have j4 := (all_join (x := x.1) (s' := x.2) ha).1
        refine ⟨j3, ?_, ?_⟩
        · rw [j1, j4]
          simp [ByteArray.size]
          omega
        · rw [j1]
          simp only [List.length_cons, List.length_append]
          omega
  | t + 3, h =>
    simp only [tailR] at h
    split at h
    · cases hv : valsS s with
      | none => rw [hv] at h; cases h
      | some y =>
        rw [hv] at h
        cases h
        obtain ⟨j1, -, j3⟩ := vals_join (vs := y.1) (s' := y.2) hv
        refine ⟨j3, by simp, ?_⟩
        rw [j1]
        simp only [List.length_cons, List.length_append]
        omega
    · simp only [Option.some.injEq, Prod.mk.injEq] at h
      rw [← h.1]
      exact ⟨(by intro x hx; cases hx), by simp, by simp [litsT]⟩
theorem event_fit {ek : Int} {b : Bool} {t : Nat} {s : St} {c : C} {m : Bool} (h : eventR ek b t s = some (c, m)) (hs : (joinS s).length ≤ 1048600) : FitC c ∧ c.told = [] := by
  unfold eventR at h
  split at h
  · cases h
  · rename_i x hx
    split at h
    · cases h
    · rename_i y hy
      cases hz : tailR t y.2 with
      | none => rw [hz] at h; cases h
      | some z =>
        rw [hz] at h
        simp only [Option.map_some, Option.some.injEq, Prod.mk.injEq] at h
        obtain ⟨rfl, -⟩ := h
        have n1 := (num_join (n := x.1) (s' := x.2) hx).2
        have l1 := num_shorter (n := x.1) (s' := x.2) hx
        have n2 : In64 y.1 ∧ (joinS y.2).length ≤ (joinS x.2).length := by
          unfold slotR at hy
          split at hy
          · exact ⟨in64_num (num_join (n := y.1) (s' := y.2) hy).2, num_shorter (n := y.1) (s' := y.2) hy⟩
          · cases hy; exact ⟨in64_zero, Nat.le_refl _⟩
        obtain ⟨f1, f2, f3⟩ := tailR_fit (z := z.1) (s' := z.2) hz
        have f4 := lits_ge z.1.2
        exact ⟨FitC.event (in64_num n1) n2.1 (by omega) (by omega) f1 (by omega), rfl⟩
theorem load_fit {s : St} {c : C} {m : Bool} (h : loadR s = .ok (c, m)) (hs : (joinS s).length ≤ 1048600) : FitC c ∧ (textS c.told).length ≤ 1048600 := by
  have h0 := load_join h
  obtain ⟨h1, h2, -, -⟩ := load_len h
  have h3 : numT c.conn ++ 32 :: textS c.told = joinS s := congrArg Prod.fst h0.1
  have h4 : (textS c.told).length ≤ 1048600 := by
    have := congrArg List.length h3
    simp only [List.length_append, List.length_cons] at this
    omega
  refine ⟨?_, h4⟩
  have h5 := h0.2.2
  unfold loadR at h
  split at h
  · cases h
  · rename_i x hx
    split at h
    · cases h
    · split at h
      · cases h
      · simp only [Except.ok.injEq, Prod.mk.injEq] at h
        obtain ⟨rfl, -⟩ := h
        exact FitC.of_ (in64_num (num_join (n := x.1) (s' := x.2) hx).2) (by simp only [C.of] at h1; omega) (fun t ht => by have := h2 t ht; omega) (fun t ht => h5 t ht) (by simp only [C.of] at h4; omega)
theorem restart_fit {s : St} {c : C} {m : Bool} (h : restartR s = some (c, m)) (hs : (joinS s).length ≤ 1048600) : FitC c ∧ c.told = [] := by
  have h1 := (restart_len h).1
  unfold restartR at h
  split at h
  · cases h
  · split at h
    · rename_i x _ _
      cases hc : choicesR (x.2.1.length + 2) x.2 with
      | none => rw [hc] at h; cases h
      | some l =>
        rw [hc] at h
        simp only [Option.map_some, Option.some.injEq, Prod.mk.injEq] at h
        obtain ⟨rfl, -⟩ := h
        have h2 := (choices_join _ _ _ hc).2
        simp only [C.act] at h1
        exact ⟨FitC.act_ in64_zero (fun n hn => in64_num (h2 n hn)) (by omega), rfl⟩
    · cases h
theorem count_fit {ak : Int} {s : St} {c : C} {m : Bool} (h : countR ak s = some (c, m)) : FitC c ∧ c.told = [] := by
  unfold countR at h
  cases hn : numS s with
  | none => rw [hn] at h; cases h
  | some x =>
    rw [hn] at h
    simp only [Option.map_some, Option.some.injEq, Prod.mk.injEq] at h
    obtain ⟨rfl, -⟩ := h
    exact ⟨FitC.act_ (in64_num (num_join (n := x.1) (s' := x.2) hn).2) (by intro x hx; cases hx) (by simp), rfl⟩
theorem fit_text {c : C} (h : FitC c ∧ c.told = []) : FitC c ∧ (textS c.told).length ≤ 1048600 := ⟨h.1, by rw [h.2]; simp [textS, flatT]⟩
theorem verb_fit {i : Nat} {s : St} {c : C} {m : Bool} (h : verbR i s = .ok (c, m)) (hs : (joinS s).length ≤ 1048600) : FitC c ∧ (textS c.told).length ≤ 1048600 := by
  have f0 : FitC (C.event 9 0 0 ByteArray.empty []) := FitC.event in64_zero in64_zero (by simp) (by simp) (by intro x hx; cases hx) (by simp [litsT])
  have f1 : FitC (C.act 3 0 false []) := FitC.act_ in64_zero (by intro x hx; cases hx) (by simp)
  have f2 : ∀ k, FitC (C.of k 0 []) := fun k => FitC.of_ in64_zero (by simp) (by intro x hx; cases hx) (by intro x hx; cases hx) (by simp [textS, flatT])
  by_cases h9 : i = 9
  · subst h9; simp only [verbR, Except.ok.injEq, Prod.mk.injEq] at h; obtain ⟨rfl, -⟩ := h; exact fit_text ⟨f0, rfl⟩
  by_cases h10 : i = 10
  · subst h10; simp only [verbR, Except.ok.injEq, Prod.mk.injEq] at h; obtain ⟨rfl, -⟩ := h; exact fit_text ⟨f1, rfl⟩
  by_cases h11 : i = 11
  · subst h11; exact fit_text (count_fit (words_ok h))
  by_cases h12 : i = 12
  · subst h12; exact fit_text (count_fit (words_ok h))
  by_cases h13 : i = 13
  · subst h13; exact fit_text (restart_fit (words_ok h) hs)
  by_cases h14 : i = 14
  · subst h14; simp only [verbR, Except.ok.injEq, Prod.mk.injEq] at h; obtain ⟨rfl, -⟩ := h; exact fit_text ⟨f2 2, rfl⟩
  by_cases h15 : i = 15
  · subst h15; simp only [verbR, Except.ok.injEq, Prod.mk.injEq] at h; obtain ⟨rfl, -⟩ := h; exact fit_text ⟨f2 3, rfl⟩
  by_cases h16 : i = 16
  · subst h16; exact load_fit h hs
  have hR : verbR i s = words (eventR (evKind i) (evSlot i) (evTail i) s) := by
    unfold verbR; split <;> simp_all
  rw [hR] at h
  exact fit_text (event_fit (words_ok h) hs)
theorem parse_fit {l : List UInt8} {c : C} (h : parseS l = .ok c) (hl : l.length ≤ 1048576) : FitC c ∧ (textS c.told).length ≤ 1048600 := by
  obtain ⟨i, s, -, -, hv, -, hj, -⟩ := parse_join h
  refine verb_fit hv ?_
  rw [← hj, List.length_append] at hl
  omega
end Go.Proofs.YtkkildkleleppaaGreatDoor
