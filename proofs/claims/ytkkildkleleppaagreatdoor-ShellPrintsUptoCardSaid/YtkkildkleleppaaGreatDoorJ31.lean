/- Plain: how long what a line is read as may be, and what a command is written as. The shell's sameness: slices.Equal at values and at numbers, slices.EqualFunc at things told. -/
import Derived.Test.YtkkildkleleppaaGreatDoorJ16
import Derived.Test.YtkkildkleleppaaGreatDoorJ27
import Derived.Test.YtkkildkleleppaaGreatDoorJ29
import Derived.Test.YtkkildkleleppaaGreatDoorJ30
namespace Go.Proofs.YtkkildkleleppaaGreatDoor

theorem lits_ge (vs : List V) : vs.length ≤ (litsT vs).length + 1 := by
  cases vs with
  | nil => simp
  | cons v r =>
    have := params_ge r
    simp only [litsT, List.length_append, List.length_cons]
    omega
theorem tailW_ps {t : Nat} {c : C} (h : t = 0 ∨ t = 1 → c.ps = []) : c.ps.length ≤ (tailW t c).length + 1 := by
  match t, h with
  | 0, h => simp [h (.inl rfl)]
  | 1, h => simp [h (.inr rfl)]
  | 2, _ =>
    have := lits_ge c.ps
    simp only [tailW, List.length_cons, List.length_append]
    omega
  | t + 3, _ =>
    have := lits_ge c.ps
    simp only [tailW]
    split
    · rename_i h; simp [h]
    · simp only [List.length_cons]; omega
theorem tailR_ps {t : Nat} {s s' : St} {z : ByteArray × List V} (h : tailR t s = some (z, s')) (ht : t = 0 ∨ t = 1) : z.2 = [] := by
  rcases ht with rfl | rfl
  · simp only [tailR, Option.some.injEq, Prod.mk.injEq] at h
    rw [← h.1]
  · simp only [tailR] at h
    cases ha : allS s with
    | none => rw [ha] at h; cases h
    | some x => rw [ha] at h; cases h; rfl
theorem event_len {ek : Int} {b : Bool} {t : Nat} {s : St} {c : C} (h : eventR ek b t s = some (c, false)) : c.ps.length ≤ (joinS s).length + 1 ∧ c.ch = [] ∧ c.told = [] := by
  obtain ⟨h1, s1, s2, h2⟩ := event_join h
  refine ⟨?_, ?_⟩
  · have h3 := tailW_ps (t := t) (c := c) (fun ht => tailR_ps h2 ht)
    have h4 : numT c.ec ++ slotW b c ++ tailW t c = joinS s := congrArg Prod.fst h1
    rw [← h4]
    simp only [List.length_append]
    omega
  · unfold eventR at h
    split at h
    · cases h
    · split at h
      · cases h
      · rename_i x _ y _
        cases hz : tailR t y.2 with
        | none => rw [hz] at h; cases h
        | some z =>
          rw [hz] at h
          simp only [Option.map_some, Option.some.injEq, Prod.mk.injEq] at h
          obtain ⟨rfl, -⟩ := h
          exact ⟨rfl, rfl⟩
theorem ch_ge (l : List Int) : l.length ≤ (chT l).length := by
  induction l with
  | nil => simp
  | cons n r ih =>
    have e : chT (n :: r) = numT n ++ chT r := by simp [chT]
    rw [e, List.length_append, List.length_cons]
    simp only [numT, List.length_cons]
    omega
theorem restart_len {s : St} {c : C} {m : Bool} (h : restartR s = some (c, m)) : c.ch.length ≤ (joinS s).length ∧ c.ps = [] ∧ c.told = [] := by
  have h1 := restart_join h
  have h2 : 32 :: (if c.log then logW else journalW) ++ chT c.ch = joinS s := congrArg Prod.fst h1
  refine ⟨?_, ?_⟩
  · have := ch_ge c.ch
    rw [← h2]
    simp only [List.length_append, List.length_cons]
    omega
  · unfold restartR at h
    split at h
    · cases h
    · split at h
      · rename_i x _ _
        cases hc : choicesR (x.2.1.length + 2) x.2 with
        | none => rw [hc] at h; cases h
        | some l => rw [hc] at h; cases h; exact ⟨rfl, rfl⟩
      · cases h
theorem count_len {ak : Int} {s : St} {c : C} {m : Bool} (h : countR ak s = some (c, m)) : c.ch = [] ∧ c.ps = [] ∧ c.told = [] := by
  unfold countR at h
  cases hn : numS s with
  | none => rw [hn] at h; cases h
  | some x => rw [hn] at h; cases h; exact ⟨rfl, rfl, rfl⟩
theorem load_len {s : St} {c : C} {m : Bool} (h : loadR s = .ok (c, m)) : c.told.length ≤ (joinS s).length ∧ (∀ t ∈ c.told, t.ps.length ≤ (joinS s).length) ∧ c.ch = [] ∧ c.ps = [] := by
  unfold loadR at h
  split at h
  · cases h
  · rename_i x hx
    split at h
    · cases h
    · rename_i y hy
      split at h
      · cases h
      · rename_i ts ht
        simp only [Except.ok.injEq, Prod.mk.injEq] at h
        obtain ⟨rfl, -⟩ := h
        obtain ⟨h1, h2⟩ := read_bound ht
        have h3 : y.1.length ≤ (joinS s).length := by
          rw [(num_join (n := x.1) (s' := x.2) hx).1, (all_join (x := y.1) (s' := y.2) hy).1]
          simp only [List.length_append, List.length_cons]
          omega
        exact ⟨Nat.le_trans h1 h3, fun t ht => Nat.le_trans (h2 t ht) h3, rfl, rfl⟩
theorem LenC.of_nil {c : C} (h1 : c.ch = []) (h2 : c.ps = []) (h3 : c.told = []) : LenC c :=
  ⟨by rw [h2]; decide, by rw [h1]; decide, by rw [h3]; decide, by rw [h3]; intro t ht; cases ht⟩
theorem verb_len {i : Nat} {s : St} {c : C} (h : verbR i s = .ok (c, false)) (hs : (joinS s).length < 100000000) : LenC c := by
  by_cases h9 : i = 9
  · subst h9; simp only [verbR, Except.ok.injEq, Prod.mk.injEq] at h; obtain ⟨rfl, -⟩ := h; exact LenC.of_nil rfl rfl rfl
  by_cases h10 : i = 10
  · subst h10; simp only [verbR, Except.ok.injEq, Prod.mk.injEq] at h; obtain ⟨rfl, -⟩ := h; exact LenC.of_nil rfl rfl rfl
  by_cases h11 : i = 11
  · subst h11; obtain ⟨a, b, d⟩ := count_len (words_ok h); exact LenC.of_nil a b d
  by_cases h12 : i = 12
  · subst h12; obtain ⟨a, b, d⟩ := count_len (words_ok h); exact LenC.of_nil a b d
  by_cases h13 : i = 13
  · subst h13
    obtain ⟨a, b, d⟩ := restart_len (words_ok h)
    exact ⟨by rw [b]; decide, by omega, by rw [d]; decide, by rw [d]; intro t ht; cases ht⟩
  by_cases h14 : i = 14
  · subst h14; simp only [verbR, Except.ok.injEq, Prod.mk.injEq] at h; obtain ⟨rfl, -⟩ := h; exact LenC.of_nil rfl rfl rfl
  by_cases h15 : i = 15
  · subst h15; simp only [verbR, Except.ok.injEq, Prod.mk.injEq] at h; obtain ⟨rfl, -⟩ := h; exact LenC.of_nil rfl rfl rfl
  by_cases h16 : i = 16
  · subst h16
    obtain ⟨a, b, d, e⟩ := load_len h
    exact ⟨by rw [e]; decide, by rw [d]; decide, by omega, fun t ht => by have := b t ht; omega⟩
  have hR : verbR i s = words (eventR (evKind i) (evSlot i) (evTail i) s) := by
    unfold verbR; split <;> simp_all
  rw [hR] at h
  obtain ⟨a, b, d⟩ := event_len (words_ok h)
  exact ⟨by omega, by rw [b]; decide, by rw [d]; decide, by rw [d]; intro t ht; cases ht⟩
/-- What a line is read as is no longer than the line. -/
theorem parse_len {l : List UInt8} {c : C} (h : parseS l = .ok c) (hl : l.length < 100000000) : LenC c := by
  obtain ⟨i, s, -, -, hv, -, hj, -⟩ := parse_join h
  refine verb_len hv ?_
  rw [← hj, List.length_append] at hl
  omega
/-! ### What is written -/
theorem ch_len {c : C} (hf : FitC c) : (chT c.ch).length ≤ 24200000 := by
  have h1 := chT_len c.ch hf.ch
  have h2 := hf.chl
  omega
theorem slotW_len {b : Bool} {c : C} (hf : FitC c) : (slotW b c).length ≤ 22 := by
  unfold slotW
  split
  · exact numT_len hf.es
  · simp
theorem eventW_len {ek : Int} {b : Bool} {t : Nat} {c : C} (hf : FitC c) : (eventW ek b t c).1.length ≤ 31000000 := by
  have h1 := numT_len hf.ec
  have h2 := slotW_len (b := b) hf
  have h3 := tailW_len t hf
  simp only [eventW, List.length_append]
  omega
theorem word_len2 (p : Bool) : (if p then logW else journalW).length ≤ 7 := by cases p <;> decide
theorem verbT_len (i : Nat) {c : C} (hf : FitC c) : (verbT i c).1.length ≤ 31000000 := by
  have h1 := numT_len hf.n
  have h2 := numT_len hf.conn
  have h3 := hf.text
  have h4 := ch_len hf
  have h5 := word_len2 c.log
  unfold verbT
  split
  · simp [plainW]
  · simp [plainW]
  · simp only [countW]; omega
  · simp only [countW]; omega
  · simp only [restartW, List.length_append, List.length_cons]; omega
  · simp [plainW]
  · simp [plainW]
  · simp only [loadW, List.length_append, List.length_cons]; omega
  · exact eventW_len hf
theorem verbW_len (i : Nat) : (verbW i).length ≤ 10 := by
  unfold verbW
  split <;> decide
theorem lineS_len {c : C} (hf : FitC c) : (lineS c).length ≤ 90000000 := by
  have h1 := numT_len hf.n
  have h2 := numT_len hf.conn
  have h3 := hf.text
  have h4 := ch_len hf
  have h5 := word_len2 c.log
  have h6 := numT_len hf.ec
  have h7 := numT_len hf.es
  have h8 := hf.lits
  have h9 := hf.sql
  have h10 := size_len c.sql
  have hv := verbW_len
  have hw : (wordOf c).length ≤ 10 := by
    unfold wordOf
    repeat' split
    all_goals exact hv _
  have hE : (lineE c).length ≤ 50000000 := by
    unfold lineE
    split
    · omega
    · simp only [List.length_append]
      have e1 : (if slotK c.ek then numT c.es else []).length ≤ 22 := by
        split
        · exact h7
        · simp
      have e2 : (if c.ps ≠ [] ∧ (c.ek = 3 ∨ c.ek = 5) then 32 :: litsT c.ps else []).length ≤ 20000001 := by
        split
        · simp only [List.length_cons]; omega
        · simp
      have e3 : (if c.ek = 3 ∨ c.ek = 4 then 32 :: c.sql.data.toList else []).length ≤ 2000001 := by
        split
        · simp only [List.length_cons]; omega
        · simp
      omega
  have hA : (lineA c).length ≤ 60000000 := by
    unfold lineA
    generalize (if c.log then logW else journalW) = lw at h5 ⊢
    have a1 := hv 10
    have a2 := hv 11
    have a3 := hv 12
    have a4 := hv 13
    repeat' split
    all_goals (first | omega | (simp only [List.length_append, List.length_cons]; omega))
  unfold lineS
  have a1 := hv 14
  have a2 := hv 15
  have a3 := hv 16
  repeat' split
  all_goals (first | omega | (simp only [List.length_append, List.length_cons]; omega))
end Go.Proofs.YtkkildkleleppaaGreatDoor
namespace Go.Proofs.YtkkildkleleppaaGreatDoor
open Go.RowKit

set_option maxRecDepth 100000 in
set_option maxHeartbeats 1000000 in
theorem vequal_any (a : Option Addr) (n c : Nat) (vs : List V) (hn : n = vs.length) (a' : Option Addr) (n' c' : Nat) (us : List V) (hn' : n' = us.length) (hl : n ≤ 100000000) (hl' : n' ≤ 100000000) (w : World) (h : IsVs w a vs) (h' : IsVs w a' us) :
    Calls Tryz.prog 108 #[.slice a n c, .slice a' n' c'] w (Ret w (.bool (sameVs vs us))) := by
  by_cases hne : n = n'
  · subst hne
    have HN := Lib.hid hn
    have HN' := Lib.hid hn'
    clear hn hn'
    go_enter Tryz.func108, Tryz.ntmps108
    go_wp2
    go_loopw [13] (fun i wr => ∃ k : Nat, k ≤ n ∧ i = .int .i64 k ∧ Below w.heap.size w wr ∧ Hid (∀ j, j < k → ∀ (h1 : j < vs.length) (h2 : j < us.length), sameV vs[j] us[j] = true)) (fun i _ => n - (intOf i).toNat)
    case atStart => exact ⟨0, by omega, rfl, Below.refl _ _, Lib.hid (by intro j hj; omega)⟩
    case round =>
      obtain ⟨k, hk, rfl, hb, HA⟩ := hrel
      by_cases hlt : k < n
      · have hkv : k < vs.length := by have := HN.out; omega
        have hku : k < us.length := by have := HN'.out; omega
        obtain ⟨b, o, rfl, c0, c1, c2⟩ := (h.below hb).at_ hkv
        obtain ⟨b', o', rfl, d0, d1, d2⟩ := (h'.below hb).at_ hku
        generalize hv : vs[k] = v at c0 c1 c2
        generalize hu : us[k] = u at d0 d1 d2
        have HV := Lib.hid hv
        have HU := Lib.hid hu
        clear hv hu
        have i0 : (0 : Int) ≤ (k : Int) := Int.natCast_nonneg _
        have i1 : (k : Int) < (n : Int) := by omega
        have hneq := run_neq_V v u
        cases hs : sameV v u with
        | true =>
          simp only [hs] at hneq
          have HS : Hid (∀ j, j < k + 1 → ∀ (h1 : j < vs.length) (h2 : j < us.length), sameV vs[j] us[j] = true) := Lib.hid (by
            intro j hj h1 h2
            by_cases hjk : j < k
            · exact HA.out j hjk h1 h2
            · have : j = k := by omega
              subst this
              rw [HV.out, HU.out]
              exact hs)
          clear hs
          go_wp2_with fail
          go_quiet (fail)
          go_wp2
          go_roundw
          case rel => exact ⟨k + 1, by omega, by go_num, below_drewN hb _, HS⟩
          case measure => simp [intOf]; omega
        | false =>
          simp only [hs] at hneq
          have HS : Hid (sameVs vs us = false) := Lib.hid (sameVs_at hkv hku (by rw [HV.out, HU.out]; exact hs))
          clear hs
          go_wp2_with fail
          go_quiet (fail)
          go_wp2
          go_ret
          rw [HS.out]
          exact ⟨rfl, below_drewN hb _⟩
      · have HS : Hid (sameVs vs us = true) := Lib.hid (sameVs_all (by rw [← HN.out, ← HN'.out]) (fun i h1 h2 => HA.out i (by have := HN.out; omega) h1 h2))
        go_wp2
        go_ret
        rw [HS.out]
        exact ⟨rfl, hb⟩
  · have HS : Hid (sameVs vs us = false) := Lib.hid (sameVs_len (by rw [← hn, ← hn']; exact hne))
    have hi : ((n : Int) == (n' : Int)) = false := by simp; omega
    have hi2 : ((n : Int) != (n' : Int)) = true := by simp; omega
    clear hn hn'
    go_enter Tryz.func108, Tryz.ntmps108
    go_wp2
    go_ret
    rw [HS.out]
    exact ⟨rfl, Below.refl _ _⟩
set_option maxRecDepth 100000 in
set_option maxHeartbeats 1000000 in
theorem iequal_any (a : Option Addr) (n c : Nat) (vs : List Int) (hn : n = vs.length) (a' : Option Addr) (n' c' : Nat) (us : List Int) (hn' : n' = us.length) (hl : n ≤ 100000000) (hl' : n' ≤ 100000000) (w : World) (h : IsIs w a vs) (h' : IsIs w a' us) :
    Calls Tryz.prog 109 #[.slice a n c, .slice a' n' c'] w (Ret w (.bool (sameIs vs us))) := by
  by_cases hne : n = n'
  · subst hne
    have HN := Lib.hid hn
    have HN' := Lib.hid hn'
    clear hn hn'
    go_enter Tryz.func109, Tryz.ntmps109
    go_wp2
    go_loopw [13] (fun i wr => ∃ k : Nat, k ≤ n ∧ i = .int .i64 k ∧ Below w.heap.size w wr ∧ Hid (∀ j, j < k → ∀ (h1 : j < vs.length) (h2 : j < us.length), vs[j] = us[j])) (fun i _ => n - (intOf i).toNat)
    case atStart => exact ⟨0, by omega, rfl, Below.refl _ _, Lib.hid (by intro j hj; omega)⟩
    case round =>
      obtain ⟨k, hk, rfl, hb, HA⟩ := hrel
      by_cases hlt : k < n
      · have hkv : k < vs.length := by have := HN.out; omega
        have hku : k < us.length := by have := HN'.out; omega
        obtain ⟨b, o, rfl, c0⟩ := (h.below hb).at_ hkv
        obtain ⟨b', o', rfl, d0⟩ := (h'.below hb).at_ hku
        generalize hv : vs[k] = v at c0
        generalize hu : us[k] = u at d0
        have HV := Lib.hid hv
        have HU := Lib.hid hu
        clear hv hu
        have i0 : (0 : Int) ≤ (k : Int) := Int.natCast_nonneg _
        have i1 : (k : Int) < (n : Int) := by omega
        cases hs : (v == u) with
        | true =>
          have hs2 : (v != u) = false := by simp [bne, hs]
          have HS : Hid (∀ j, j < k + 1 → ∀ (h1 : j < vs.length) (h2 : j < us.length), vs[j] = us[j]) := Lib.hid (by
            intro j hj h1 h2
            by_cases hjk : j < k
            · exact HA.out j hjk h1 h2
            · have : j = k := by omega
              subst this
              rw [HV.out, HU.out]
              simpa using hs)
          clear hs
          go_wp2_with fail
          go_quiet (fail)
          go_wp2
          go_roundw
          case rel => exact ⟨k + 1, by omega, by go_num, below_drewN hb _, HS⟩
          case measure => simp [intOf]; omega
        | false =>
          have hs2 : (v != u) = true := by simp [bne, hs]
          have HS : Hid (sameIs vs us = false) := Lib.hid (sameIs_at hkv hku (by rw [HV.out, HU.out]; simpa using hs))
          clear hs
          go_wp2_with fail
          go_quiet (fail)
          go_wp2
          go_ret
          rw [HS.out]
          exact ⟨rfl, below_drewN hb _⟩
      · have HS : Hid (sameIs vs us = true) := Lib.hid (sameIs_all (by rw [← HN.out, ← HN'.out]) (fun i h1 h2 => HA.out i (by have := HN.out; omega) h1 h2))
        go_wp2
        go_ret
        rw [HS.out]
        exact ⟨rfl, hb⟩
  · have HS : Hid (sameIs vs us = false) := Lib.hid (sameIs_len (by rw [← hn, ← hn']; exact hne))
    have hi : ((n : Int) == (n' : Int)) = false := by simp; omega
    have hi2 : ((n : Int) != (n' : Int)) = true := by simp; omega
    clear hn hn'
    go_enter Tryz.func109, Tryz.ntmps109
    go_wp2
    go_ret
    rw [HS.out]
    exact ⟨rfl, Below.refl _ _⟩

set_option maxRecDepth 100000 in
set_option maxHeartbeats 1000000 in
theorem told1_any (s s' : ByteArray) (pa qa : Option Addr) (pc qc : Nat) (ps qs : List V) (hl : ps.length ≤ 100000000) (hl' : qs.length ≤ 100000000) (w : World) (h : IsVs w pa ps) (h' : IsVs w qa qs) :
    Calls Tryz.prog 107 #[.agg #[.string s, .slice pa ps.length pc], .agg #[.string s', .slice qa qs.length qc]] w (Ret w (.bool (sameT ⟨s, ps⟩ ⟨s', qs⟩))) := by
  have HE := Lib.hid (fun w' hb => vequal_any pa ps.length pc ps rfl qa qs.length qc qs rfl hl hl' w' (h.below hb) (h'.below hb))
  have HX : Hid (sameT ⟨s, ps⟩ ⟨s', qs⟩ = (s.toList == s'.toList && sameVs ps qs)) := Lib.hid (by rw [sameT, ← toList_data, ← toList_data])
  generalize sameT ⟨s, ps⟩ ⟨s', qs⟩ = R at HX ⊢
  generalize sameVs ps qs = bp at HE HX
  clear h h'
  obtain ⟨W0, hW0⟩ : ∃ W0, (w.alloc (.cells #[.string s, .slice pa ps.length pc] 71)).alloc (.cells #[.string s', .slice qa qs.length qc] 71) = W0 := ⟨_, rfl⟩
  have hs1 : (w.alloc (Obj.cells #[.string s, .slice pa ps.length pc] 71)).heap.size = w.heap.size + 1 := by simp
  have hA : Blk W0 w.heap.size #[.string s, .slice pa ps.length pc] 71 := by rw [← hW0]; exact Blk.alloc (Blk.new _ _ _) _
  have hB : Blk W0 (w.heap.size + 1) #[.string s', .slice qa qs.length qc] 71 := by rw [← hW0]; have := Blk.new (w.alloc (Obj.cells #[.string s, .slice pa ps.length pc] 71)) #[.string s', .slice qa qs.length qc] 71; rw [hs1] at this; exact this
  have HB : Hid (Below w.heap.size w W0) := Lib.hid (by rw [← hW0]; exact (below_alloc _ _).alloc (by simp) _)
  have a0 : W0.cell? ⟨w.heap.size, 0, none⟩ = some (.string s) := Blk.cell hA 0
  have a1 : W0.cell? ⟨w.heap.size, 1, none⟩ = some (.slice pa ps.length pc) := Blk.cell hA 1
  have b0 : W0.cell? ⟨w.heap.size + 1, 0, none⟩ = some (.string s') := Blk.cell hB 0
  have b1 : W0.cell? ⟨w.heap.size + 1, 1, none⟩ = some (.slice qa qs.length qc) := Blk.cell hB 1
  clear hA hB hs1
  cases hq : (s.toList == s'.toList) with
  | false =>
    have HR : Hid (R = false) := Lib.hid (by rw [HX.out, hq]; rfl)
    clear HX
    go_enter Tryz.func107, Tryz.ntmps107
    go_wp2_with fail
    go_ret
    rw [HR.out]
    exact ⟨rfl, HB.out⟩
  | true =>
    have HR : Hid (R = bp) := Lib.hid (by rw [HX.out, hq]; rfl)
    clear HX
    go_enter Tryz.func107, Tryz.ntmps107
    go_wp2_with (go_at_call 108; refine (HE.out _ HB.out).mono ?_; rintro e w2 ⟨rfl, hb2⟩)
    go_ret
    rw [HR.out]
    exact ⟨rfl, bthn HB.out hb2⟩

set_option maxRecDepth 100000 in
set_option maxHeartbeats 2000000 in
theorem tequal_any (a : Option Addr) (n c : Nat) (ts : List T) (hn : n = ts.length) (a' : Option Addr) (n' c' : Nat) (us : List T) (hn' : n' = us.length) (hl : n ≤ 100000000) (hl' : n' ≤ 100000000)
    (hp : ∀ t ∈ ts, t.ps.length ≤ 100000000) (hp' : ∀ t ∈ us, t.ps.length ≤ 100000000) (w : World) (h : IsTs w a ts) (h' : IsTs w a' us) :
    Calls Tryz.prog 106 #[.slice a n c, .slice a' n' c', .func (.func 107) #[] #[]] w (Ret w (.bool (sameTs ts us))) := by
  have HP := Lib.hid hp
  have HP' := Lib.hid hp'
  clear hp hp'
  by_cases hne : n = n'
  · subst hne
    have HN := Lib.hid hn
    have HN' := Lib.hid hn'
    clear hn hn'
    go_enter Tryz.func106, Tryz.ntmps106
    go_wp2
    go_loopw [17] (fun i wr => ∃ k : Nat, k ≤ n ∧ i = .int .i64 k ∧ Below w.heap.size w wr ∧ Hid (∀ j, j < k → ∀ (h1 : j < ts.length) (h2 : j < us.length), sameT ts[j] us[j] = true)) (fun i _ => n - (intOf i).toNat)
    case atStart => exact ⟨0, by omega, rfl, Below.refl _ _, Lib.hid (by intro j hj; omega)⟩
    case round =>
      obtain ⟨k, hk, rfl, hb, HA⟩ := hrel
      by_cases hlt : k < n
      · have hkv : k < ts.length := by have := HN.out; omega
        have hku : k < us.length := by have := HN'.out; omega
        obtain ⟨b, o, rfl, t0, pa, pc, t1, hpc, hvs⟩ := (h.below hb).at_ hkv
        obtain ⟨b', o', rfl, u0, qa, qc, u1, hqc, hus⟩ := (h'.below hb).at_ hku
        have hpl := HP.out ts[k] (List.getElem_mem hkv)
        have hql := HP'.out us[k] (List.getElem_mem hku)
        generalize hv : ts[k] = t at t0 t1 hpc hvs hpl
        generalize hu : us[k] = u at u0 u1 hqc hus hql
        have HV := Lib.hid hv
        have HU := Lib.hid hu
        obtain ⟨sql, ps⟩ := t
        obtain ⟨sql', ps'⟩ := u
        simp only at t0 t1 hpc hvs u0 u1 hqc hus hpl hql
        have HC := Lib.hid (fun w' hb => told1_any sql sql' pa qa pc qc ps ps' hpl hql w' (hvs.below hb) (hus.below hb))
        have hz := hb.size
        have i0 : (0 : Int) ≤ (k : Int) := Int.natCast_nonneg _
        have i1 : (k : Int) < (n : Int) := by omega
        have U0 := cell_alloc (.cells #[.string sql, .slice pa ps.length pc] 71) u0
        have U1 := cell_alloc (.cells #[.string sql, .slice pa ps.length pc] 71) u1
        have HBw : Hid (Below wr.heap.size wr ((wr.alloc (.cells #[.string sql, .slice pa ps.length pc] 71)).alloc (.cells #[.string sql', .slice qa ps'.length qc] 71))) := Lib.hid ((below_alloc _ _).alloc (by simp) _)
        clear hv hu hvs hus hpc hqc
        cases hs : sameT ⟨sql, ps⟩ ⟨sql', ps'⟩ with
        | true =>
          have HS : Hid (∀ j, j < k + 1 → ∀ (h1 : j < ts.length) (h2 : j < us.length), sameT ts[j] us[j] = true) := Lib.hid (by
            intro j hj h1 h2
            by_cases hjk : j < k
            · exact HA.out j hjk h1 h2
            · have : j = k := by omega
              subst this
              rw [HV.out, HU.out, hs])
          rw [hs] at HC
          clear hs
          go_wp2_with (go_at_call 107; refine (HC.out _ HBw.out).mono ?_; rintro e w3 ⟨rfl, hb3⟩)
          go_roundw
          case rel => exact ⟨k + 1, by omega, by go_num, (hb.trans (HBw.out.mono hz)).trans (hb3.mono (Nat.le_trans hz HBw.out.size)), HS⟩
          case measure => simp [intOf]; omega
        | false =>
          have HS : Hid (sameTs ts us = false) := Lib.hid (sameTs_at hkv hku (by rw [HV.out, HU.out, hs]))
          rw [hs] at HC
          clear hs
          go_wp2_with (go_at_call 107; refine (HC.out _ HBw.out).mono ?_; rintro e w3 ⟨rfl, hb3⟩)
          go_ret
          rw [HS.out]
          exact ⟨rfl, (hb.trans (HBw.out.mono hz)).trans (hb3.mono (Nat.le_trans hz HBw.out.size))⟩
      · have HS : Hid (sameTs ts us = true) := Lib.hid (sameTs_all (by rw [← HN.out, ← HN'.out]) (fun i h1 h2 => HA.out i (by have := HN.out; omega) h1 h2))
        go_wp2
        go_ret
        rw [HS.out]
        exact ⟨rfl, hb⟩
  · have HS : Hid (sameTs ts us = false) := Lib.hid (sameTs_len (by rw [← hn, ← hn']; exact hne))
    have hi : ((n : Int) == (n' : Int)) = false := by simp; omega
    have hi2 : ((n : Int) != (n' : Int)) = true := by simp; omega
    clear hn hn'
    go_enter Tryz.func106, Tryz.ntmps106
    go_wp2
    go_ret
    rw [HS.out]
    exact ⟨rfl, Below.refl _ _⟩
end Go.Proofs.YtkkildkleleppaaGreatDoor
