/- What the bound gives besides: how long the text of what is read is. -/
import Derived.Test.YtkkildkleleppaaDoorOpen
namespace Go.Proofs.YtkkildkleleppaaDoor
open Go.RowKit Go.ChangeShapes Go.WideShapes Go.Deep

theorem lit_bulk (v : V) (hf : v.fit) : v.lit.length ≤ 2 * v.s.size + 21 := by
  unfold V.lit
  by_cases hm : v.may = true
  · rw [if_pos hm]
    rcases may_cases v hm with h | h | ⟨h, _, h3⟩ | ⟨h, _, h3⟩
    · simp [h]
    · have := itoa_len v.n hf; simp [h]; omega
    · have := dbl_len v.s.data.toList; rw [size_len] at this; simp [h, quoted]; omega
    · have := hexs_len v.s.data.toList; rw [size_len] at this; simp [h, blobbed]; omega
  · rw [if_neg hm]; simp
theorem sum_le {H α : Type} (f : α → Nat) (l : List α) (D : Nat → DataW H) (h : ∀ i x, l[i]? = some x → f x ≤ 12 * Rows.uptoBulk (D i)) : (l.map f).sum ≤ 12 * Rows.uptoBulkAll ((List.range l.length).map D) := by
  induction l generalizing D with
  | nil => simp
  | cons x r ih =>
    have h0 := h 0 x rfl
    have h1 := ih (fun i => D (i + 1)) (fun i y hy => h (i + 1) y (by simpa using hy))
    rw [List.length_cons, List.range_succ_eq_map, List.map_cons, List.map_cons, List.map_map, List.sum_cons]
    simp only [Rows.uptoBulkAll]
    have e : (List.range r.length).map (D ∘ Nat.succ) = (List.range r.length).map (fun i => D (i + 1)) := rfl
    rw [e]
    omega
theorem params_sum (vs : List V) : (paramsT vs).length = (vs.map (fun v => 1 + v.lit.length)).sum := by
  induction vs with
  | nil => rfl
  | cons v r ih =>
    have e : paramsT (v :: r) = 44 :: v.lit ++ paramsT r := by simp [paramsT]
    rw [e, List.map_cons, List.sum_cons, ← ih]; simp; omega
theorem flat_sum (ts : List T) : (flatT ts).length = (ts.map (fun t => t.part.length)).sum := by
  induction ts with
  | nil => rfl
  | cons t r ih =>
    have e : flatT (t :: r) = t.part ++ flatT r := by simp [flatT]
    rw [e, List.map_cons, List.sum_cons, ← ih, List.length_append]
theorem part_bulk {H : Type} {d : DataW H} {ys : List (DataW H × List MemPlace)} {n : Nat} {y0 y1 : DataW H × List MemPlace} {s : ByteArray} {vs : List V} (hD : d = .agg (ys.map (·.1))) (hl : ys.length = n + 2) (h0 : ys[0]? = some y0) (h1 : ys[1]? = some y1)
    (hs : Rows.uptoBulk y0.1 = s.size + 1) (hp : (paramsT vs).length ≤ 12 * Rows.uptoBulk y1.1) : (T.part ⟨s, vs⟩).length ≤ 12 * Rows.uptoBulk d := by
  obtain ⟨z0, z1, r, rfl⟩ : ∃ z0 z1 r, ys = z0 :: z1 :: r := by
    match ys, hl with
    | z0 :: z1 :: r, _ => exact ⟨z0, z1, r, rfl⟩
  simp at h0 h1
  subst h0 h1
  have h2 := dbl_len s.data.toList
  rw [size_len] at h2
  rw [hD]
  simp only [List.map_cons, Rows.uptoBulk, Rows.uptoBulkAll, T.part, List.length_append, List.length_cons, List.length_nil, quoted]
  omega

section
variable {H : Type} {enc : TypeId × Value → H} {w : World} {base : Nat} {held : Bool}
/-- A slice of values, out of its reading. -/
theorem open_values2 {fuel : Nat} {cs : List Value} {x : DataW H × List MemPlace} (h : DataW.trod enc Tryd.prog w base (fun _ => true) held fuel 32 cs = some x) :
    ∃ (a : Option Addr) (n c : Nat) (vs : List V), cs = [.slice a n c] ∧ n = vs.length ∧ n ≤ c ∧ IsVs w a vs ∧ fitVs vs ∧ n ≤ Rows.uptoBulk x.1 ∧ (paramsT vs).length ≤ 12 * Rows.uptoBulk x.1 := by
  rcases open_slice_fields (P := Tryd.prog) Tryd.underlying32 Tryd.underlying47 (by kernel_rfl) (by kernel_rfl) h with ⟨rfl, rfl⟩ | ⟨a, len, cap, m, D, Pl, rfl, hb, hl, hm, hmm, rfl, hi⟩
  · exact ⟨none, 0, 0, [], rfl, rfl, Nat.le_refl _, IsVs.nil_ _ _, (by intro v hv; cases hv), by simp [Rows.uptoBulk], by simp [paramsT, Rows.uptoBulk]⟩
  · simp only [if_true] at hmm
    subst hmm
    have hex : ∀ i, i < len → ∃ v : V, (w.cell? (a.add (i * 3)) = some (.int .i64 v.k) ∧ w.cell? (a.add (i * 3 + 1)) = some (.int .i64 v.n) ∧ w.cell? (a.add (i * 3 + 2)) = some (.string v.s)) ∧ v.fit ∧ 1 + v.lit.length ≤ 12 * Rows.uptoBulk (D i) := by
      intro i hil
      obtain ⟨ys, n, hD, -, -, hf⟩ := hi i (by omega)
      obtain ⟨v0, y0, c0, -, t0⟩ := hf 0 _ rfl
      obtain ⟨v1, y1, c1, -, t1⟩ := hf 1 _ rfl
      obtain ⟨v2, y2, c2, hy2, t2⟩ := hf 2 _ rfl
      obtain ⟨k, e0, -, -⟩ := DataW.trod_int (P := Tryd.prog) Tryd.underlying45 t0
      obtain ⟨n, e1, -, w1⟩ := DataW.trod_int (P := Tryd.prog) Tryd.underlying2 t1
      obtain ⟨s, e2, hx2, -⟩ := DataW.trod_string (P := Tryd.prog) Tryd.underlying9 t2
      injection e0 with e0
      injection e1 with e1
      injection e2 with e2
      subst e0 e1 e2
      refine ⟨⟨k, n, s⟩, ⟨c0, c1, c2⟩, ?_⟩
      have := bounds_i64 w1
      have hfit : V.fit ⟨k, n, s⟩ := ⟨by simp only; omega, by simp only; omega⟩
      refine ⟨hfit, ?_⟩
      have h1 := bulk_mem (d := y2.1) (l := ys.map (·.1)) (List.mem_map.2 ⟨y2, List.mem_of_getElem? hy2, rfl⟩)
      have h2 := lit_bulk ⟨k, n, s⟩ hfit
      have h3 : Rows.uptoBulk y2.1 = s.size + 1 := by rw [hx2]; simp only [Rows.uptoBulk, size_len]
      rw [hD]
      simp only [Rows.uptoBulk] at h2 ⊢
      omega
    obtain ⟨vs, hvl, hvs⟩ := list_of len _ hex
    refine ⟨some a, len, m, vs, rfl, hvl.symm, hl, ?_, fun v hv => ?_, ?_, ?_⟩
    · rcases Nat.eq_zero_or_pos len with h0 | h0
      · exact .inl (List.eq_nil_of_length_eq_zero (by omega))
      · have hp : 0 < vs.length := by omega
        obtain ⟨⟨c0, -, -⟩, -⟩ := hvs 0 _ (List.getElem?_eq_getElem hp)
        obtain ⟨b, o, rfl⟩ := lone_addr (by simpa using c0)
        refine .inr ⟨b, o, rfl, fun i v hi => ?_⟩
        obtain ⟨⟨c0, c1, c2⟩, -⟩ := hvs i v hi
        rw [add_plain] at c0 c1 c2
        exact ⟨c0, by rw [Nat.add_assoc]; exact c1, by rw [Nat.add_assoc]; exact c2⟩
    · obtain ⟨i, hi, rfl⟩ := List.getElem_of_mem hv
      exact (hvs i _ (List.getElem?_eq_getElem hi)).2.1
    · have := bulk_len ((List.range len).map D)
      simp only [List.length_map, List.length_range] at this
      simp only [Rows.uptoBulk]
      omega
    · have h1 := sum_le (fun v : V => 1 + v.lit.length) vs D (fun i v hv => (hvs i v hv).2.2)
      rw [hvl, ← params_sum] at h1
      simp only [Rows.uptoBulk]
      omega
/-- A slice of things told, out of its reading. -/
theorem open_told2 {fuel : Nat} {cs : List Value} {x : DataW H × List MemPlace} (h : DataW.trod enc Tryd.prog w base (fun _ => true) held fuel 22 cs = some x) :
    ∃ (a : Option Addr) (n c : Nat) (ts : List T), cs = [.slice a n c] ∧ n = ts.length ∧ n ≤ c ∧ IsTs w a ts ∧ fitTs ts ∧ n ≤ Rows.uptoBulk x.1 ∧ (∀ t ∈ ts, t.ps.length ≤ Rows.uptoBulk x.1) ∧ (flatT ts).length ≤ 12 * Rows.uptoBulk x.1 := by
  rcases open_slice_fields (P := Tryd.prog) Tryd.underlying22 Tryd.underlying34 (by kernel_rfl) (by kernel_rfl) h with ⟨rfl, rfl⟩ | ⟨a, len, cap, m, D, Pl, rfl, hb, hl, hm, hmm, rfl, hi⟩
  · exact ⟨none, 0, 0, [], rfl, rfl, Nat.le_refl _, .inl rfl, (by intro v hv; cases hv), by simp [Rows.uptoBulk], (by intro v hv; cases hv), by simp [flatT]⟩
  · simp only [if_true] at hmm
    subst hmm
    have hex : ∀ i, i < len → ∃ t : T, (w.cell? (a.add (i * 2)) = some (.string t.sql) ∧ ∃ pa pc, w.cell? (a.add (i * 2 + 1)) = some (.slice pa t.ps.length pc) ∧ t.ps.length ≤ pc ∧ IsVs w pa t.ps) ∧ fitVs t.ps ∧ t.ps.length ≤ Rows.uptoBulk (.slice ((List.range len).map D) ((List.range (m - len)).map fun j => D (len + j))) ∧ t.part.length ≤ 12 * Rows.uptoBulk (D i) := by
      intro i hil
      obtain ⟨ys, n, hD, -, hyl, hf⟩ := hi i (by omega)
      obtain ⟨v0, y0, c0, hy0, t0⟩ := hf 0 _ rfl
      obtain ⟨v1, y1, c1, hy1, t1⟩ := hf 1 _ rfl
      obtain ⟨s, e0, hx0, -⟩ := DataW.trod_string (P := Tryd.prog) Tryd.underlying9 t0
      obtain ⟨pa, pn, pc, vs, e1, hn, hc, hvs, hfit, hbk, hpl⟩ := open_values2 t1
      injection e0 with e0
      injection e1 with e1
      subst e0 e1 hn
      refine ⟨⟨s, vs⟩, ⟨c0, pa, pc, c1, hc, hvs⟩, hfit, ?_, ?_⟩
      rotate_left
      · exact part_bulk hD hyl hy0 hy1 (by rw [hx0]; simp only [Rows.uptoBulk, size_len]) hpl
      have h1 : Rows.uptoBulk y1.1 ≤ Rows.uptoBulk (D i) := by
        rw [hD]
        have := bulk_mem (d := y1.1) (l := ys.map (·.1)) (List.mem_map.2 ⟨y1, List.mem_of_getElem? hy1, rfl⟩)
        simp only [Rows.uptoBulk]; omega
      have h2 : Rows.uptoBulk (D i) ≤ Rows.uptoBulkAll ((List.range len).map D) := bulk_mem (List.mem_map.2 ⟨i, List.mem_range.2 hil, rfl⟩)
      simp only [Rows.uptoBulk]
      omega
    obtain ⟨ts, htl, hts⟩ := list_of len _ hex
    refine ⟨some a, len, m, ts, rfl, htl.symm, hl, ?_, fun t ht => ?_, ?_, fun t ht => ?_, ?_⟩
    · rcases Nat.eq_zero_or_pos len with h0 | h0
      · exact .inl (List.eq_nil_of_length_eq_zero (by omega))
      · have hp : 0 < ts.length := by omega
        obtain ⟨⟨c0, -⟩, -⟩ := hts 0 _ (List.getElem?_eq_getElem hp)
        obtain ⟨b, o, rfl⟩ := lone_addr (by simpa using c0)
        refine .inr ⟨b, o, rfl, fun i t hi => ?_⟩
        obtain ⟨⟨c0, pa, pc, c1, hpc, hvs⟩, -⟩ := hts i t hi
        rw [add_plain] at c0 c1
        exact ⟨c0, pa, pc, by rw [Nat.add_assoc]; exact c1, hpc, hvs⟩
    · obtain ⟨i, hi, rfl⟩ := List.getElem_of_mem ht
      exact (hts i _ (List.getElem?_eq_getElem hi)).2.1
    · have := bulk_len ((List.range len).map D)
      simp only [List.length_map, List.length_range] at this
      simp only [Rows.uptoBulk]
      omega
    · obtain ⟨i, hi, rfl⟩ := List.getElem_of_mem ht
      exact (hts i _ (List.getElem?_eq_getElem hi)).2.2.1
    · have h1 := sum_le (fun t : T => t.part.length) ts D (fun i t ht => (hts i t ht).2.2.2)
      rw [htl, ← flat_sum] at h1
      simp only [Rows.uptoBulk]
      omega
end
end Go.Proofs.YtkkildkleleppaaDoor
