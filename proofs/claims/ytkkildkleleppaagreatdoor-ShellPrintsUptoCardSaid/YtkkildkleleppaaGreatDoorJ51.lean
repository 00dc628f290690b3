/- What the bound gives besides: how long the text of what is read is. What the form's readings say of a command and of an answer. -/
import Derived.Test.YtkkildkleleppaaGreatDoorJ06
import Derived.Test.YtkkildkleleppaaGreatDoorJ31
import Derived.Test.YtkkildkleleppaaGreatDoorJ37
import Derived.Lib.SmallJoins
import Derived.Deep.Strs
namespace Go.Proofs.YtkkildkleleppaaGreatDoor
open Go.RowKit Go.ChangeShapes Go.WideShapes Go.Deep

theorem lit_bulk (v : V) (hf : v.fit) : v.lit.length ≤ 2 * v.s.size + 21 := by
  unfold V.lit
  by_cases hm : v.may = true
  · rw [if_pos hm]
    rcases may_cases v hm with h | h | ⟨h, _, h3⟩ | ⟨h, _, h3⟩
    · simp [h]
    · have := itoa_len v.n hf; simp [h]; omega
    · have := dbl_len v.s.data.toList; rw [size_len] at this; simp [h, quoted]; omega
    · have := hexs_len v.s.data.toList; rw [size_len] at this; simp [h, blobbed]; omega
  · rw [if_neg hm]; simp
theorem sum_le {H α : Type} (f : α → Nat) (l : List α) (D : Nat → DataW H) (h : ∀ i x, l[i]? = some x → f x ≤ 12 * Rows.uptoBulk (D i)) : (l.map f).sum ≤ 12 * Rows.uptoBulkAll ((List.range l.length).map D) := by
  induction l generalizing D with
  | nil => simp
  | cons x r ih =>
    have h0 := h 0 x rfl
    have h1 := ih (fun i => D (i + 1)) (fun i y hy => h (i + 1) y (by simpa using hy))
    rw [List.length_cons, List.range_succ_eq_map, List.map_cons, List.map_cons, List.map_map, List.sum_cons]
    simp only [Rows.uptoBulkAll]
    have e : (List.range r.length).map (D ∘ Nat.succ) = (List.range r.length).map (fun i => D (i + 1)) := rfl
    rw [e]
    omega
theorem params_sum (vs : List V) : (paramsT vs).length = (vs.map (fun v => 1 + v.lit.length)).sum := by
  induction vs with
  | nil => rfl
  | cons v r ih =>
    have e : paramsT (v :: r) = 44 :: v.lit ++ paramsT r := by simp [paramsT]
    rw [e, List.map_cons, List.sum_cons, ← ih]; simp; omega
theorem flat_sum (ts : List T) : (flatT ts).length = (ts.map (fun t => t.part.length)).sum := by
  induction ts with
  | nil => rfl
  | cons t r ih =>
    have e : flatT (t :: r) = t.part ++ flatT r := by simp [flatT]
    rw [e, List.map_cons, List.sum_cons, ← ih, List.length_append]
theorem part_bulk {H : Type} {d : DataW H} {ys : List (DataW H × List MemPlace)} {n : Nat} {y0 y1 : DataW H × List MemPlace} {s : ByteArray} {vs : List V} (hD : d = .agg (ys.map (·.1))) (hl : ys.length = n + 2) (h0 : ys[0]? = some y0) (h1 : ys[1]? = some y1)
    (hs : Rows.uptoBulk y0.1 = s.size + 1) (hp : (paramsT vs).length ≤ 12 * Rows.uptoBulk y1.1) : (T.part ⟨s, vs⟩).length ≤ 12 * Rows.uptoBulk d := by
  obtain ⟨z0, z1, r, rfl⟩ : ∃ z0 z1 r, ys = z0 :: z1 :: r := by
    match ys, hl with
    | z0 :: z1 :: r, _ => exact ⟨z0, z1, r, rfl⟩
  simp at h0 h1
  subst h0 h1
  have h2 := dbl_len s.data.toList
  rw [size_len] at h2
  rw [hD]
  simp only [List.map_cons, Rows.uptoBulk, Rows.uptoBulkAll, T.part, List.length_append, List.length_cons, List.length_nil, quoted]
  omega

section
variable {H : Type} {enc : TypeId × Value → H} {w : World} {base : Nat} {held : Bool}
/-- A slice of values, out of its reading. -/
theorem open_values2 {fuel : Nat} {cs : List Value} {x : DataW H × List MemPlace} (h : DataW.trod enc Tryz.prog w base (fun _ => true) held fuel 40 cs = some x) :
    ∃ (a : Option Addr) (n c : Nat) (vs : List V), cs = [.slice a n c] ∧ n = vs.length ∧ n ≤ c ∧ IsVs w a vs ∧ fitVs vs ∧ n ≤ Rows.uptoBulk x.1 ∧ (paramsT vs).length ≤ 12 * Rows.uptoBulk x.1 := by
  rcases open_slice_fields (P := Tryz.prog) Tryz.underlying40 Tryz.underlying80 (by kernel_rfl) (by kernel_rfl) h with ⟨rfl, rfl⟩ | ⟨a, len, cap, m, D, Pl, rfl, hb, hl, hm, hmm, rfl, hi⟩
  · exact ⟨none, 0, 0, [], rfl, rfl, Nat.le_refl _, IsVs.nil_ _ _, (by intro v hv; cases hv), by simp [Rows.uptoBulk], by simp [paramsT, Rows.uptoBulk]⟩
  · simp only [if_true] at hmm
    subst hmm
    have hex : ∀ i, i < len → ∃ v : V, (w.cell? (a.add (i * 3)) = some (.int .i64 v.k) ∧ w.cell? (a.add (i * 3 + 1)) = some (.int .i64 v.n) ∧ w.cell? (a.add (i * 3 + 2)) = some (.string v.s)) ∧ v.fit ∧ 1 + v.lit.length ≤ 12 * Rows.uptoBulk (D i) := by
      intro i hil
      obtain ⟨ys, n, hD, -, -, hf⟩ := hi i (by omega)
      obtain ⟨v0, y0, c0, -, t0⟩ := hf 0 _ rfl
      obtain ⟨v1, y1, c1, -, t1⟩ := hf 1 _ rfl
      obtain ⟨v2, y2, c2, hy2, t2⟩ := hf 2 _ rfl
      obtain ⟨k, e0, -, -⟩ := DataW.trod_int (P := Tryz.prog) Tryz.underlying78 t0
      obtain ⟨n, e1, -, w1⟩ := DataW.trod_int (P := Tryz.prog) Tryz.underlying2 t1
      obtain ⟨s, e2, hx2, -⟩ := DataW.trod_string (P := Tryz.prog) Tryz.underlying9 t2
      injection e0 with e0
      injection e1 with e1
      injection e2 with e2
      subst e0 e1 e2
      refine ⟨⟨k, n, s⟩, ⟨c0, c1, c2⟩, ?_⟩
      have := bounds_i64 w1
      have hfit : V.fit ⟨k, n, s⟩ := ⟨by simp only; omega, by simp only; omega⟩
      refine ⟨hfit, ?_⟩
      have h1 := bulk_mem (d := y2.1) (l := ys.map (·.1)) (List.mem_map.2 ⟨y2, List.mem_of_getElem? hy2, rfl⟩)
      have h2 := lit_bulk ⟨k, n, s⟩ hfit
      have h3 : Rows.uptoBulk y2.1 = s.size + 1 := by rw [hx2]; simp only [Rows.uptoBulk, size_len]
      rw [hD]
      simp only [Rows.uptoBulk] at h2 ⊢
      omega
    obtain ⟨vs, hvl, hvs⟩ := list_of len _ hex
    refine ⟨some a, len, m, vs, rfl, hvl.symm, hl, ?_, fun v hv => ?_, ?_, ?_⟩
    · rcases Nat.eq_zero_or_pos len with h0 | h0
      · exact .inl (List.eq_nil_of_length_eq_zero (by omega))
      · have hp : 0 < vs.length := by omega
        obtain ⟨⟨c0, -, -⟩, -⟩ := hvs 0 _ (List.getElem?_eq_getElem hp)
        obtain ⟨b, o, rfl⟩ := lone_addr (by simpa using c0)
        refine .inr ⟨b, o, rfl, fun i v hi => ?_⟩
        obtain ⟨⟨c0, c1, c2⟩, -⟩ := hvs i v hi
        rw [add_plain] at c0 c1 c2
        exact ⟨c0, by rw [Nat.add_assoc]; exact c1, by rw [Nat.add_assoc]; exact c2⟩
    · obtain ⟨i, hi, rfl⟩ := List.getElem_of_mem hv
      exact (hvs i _ (List.getElem?_eq_getElem hi)).2.1
    · have := bulk_len ((List.range len).map D)
      simp only [List.length_map, List.length_range] at this
      simp only [Rows.uptoBulk]
      omega
    · have h1 := sum_le (fun v : V => 1 + v.lit.length) vs D (fun i v hv => (hvs i v hv).2.2)
      rw [hvl, ← params_sum] at h1
      simp only [Rows.uptoBulk]
      omega
/-- A slice of things told, out of its reading. -/
theorem open_told2 {fuel : Nat} {cs : List Value} {x : DataW H × List MemPlace} (h : DataW.trod enc Tryz.prog w base (fun _ => true) held fuel 22 cs = some x) :
    ∃ (a : Option Addr) (n c : Nat) (ts : List T), cs = [.slice a n c] ∧ n = ts.length ∧ n ≤ c ∧ IsTs w a ts ∧ fitTs ts ∧ n ≤ Rows.uptoBulk x.1 ∧ (∀ t ∈ ts, t.ps.length ≤ Rows.uptoBulk x.1) ∧ (flatT ts).length ≤ 12 * Rows.uptoBulk x.1 := by
  rcases open_slice_fields (P := Tryz.prog) Tryz.underlying22 Tryz.underlying71 (by kernel_rfl) (by kernel_rfl) h with ⟨rfl, rfl⟩ | ⟨a, len, cap, m, D, Pl, rfl, hb, hl, hm, hmm, rfl, hi⟩
  · exact ⟨none, 0, 0, [], rfl, rfl, Nat.le_refl _, .inl rfl, (by intro v hv; cases hv), by simp [Rows.uptoBulk], (by intro v hv; cases hv), by simp [flatT]⟩
  · simp only [if_true] at hmm
    subst hmm
    have hex : ∀ i, i < len → ∃ t : T, (w.cell? (a.add (i * 2)) = some (.string t.sql) ∧ ∃ pa pc, w.cell? (a.add (i * 2 + 1)) = some (.slice pa t.ps.length pc) ∧ t.ps.length ≤ pc ∧ IsVs w pa t.ps) ∧ fitVs t.ps ∧ t.ps.length ≤ Rows.uptoBulk (.slice ((List.range len).map D) ((List.range (m - len)).map fun j => D (len + j))) ∧ t.part.length ≤ 12 * Rows.uptoBulk (D i) := by
      intro i hil
      obtain ⟨ys, n, hD, -, hyl, hf⟩ := hi i (by omega)
      obtain ⟨v0, y0, c0, hy0, t0⟩ := hf 0 _ rfl
      obtain ⟨v1, y1, c1, hy1, t1⟩ := hf 1 _ rfl
      obtain ⟨s, e0, hx0, -⟩ := DataW.trod_string (P := Tryz.prog) Tryz.underlying9 t0
      obtain ⟨pa, pn, pc, vs, e1, hn, hc, hvs, hfit, hbk, hpl⟩ := open_values2 t1
      injection e0 with e0
      injection e1 with e1
      subst e0 e1 hn
      refine ⟨⟨s, vs⟩, ⟨c0, pa, pc, c1, hc, hvs⟩, hfit, ?_, ?_⟩
      rotate_left
      · exact part_bulk hD hyl hy0 hy1 (by rw [hx0]; simp only [Rows.uptoBulk, size_len]) hpl
      have h1 : Rows.uptoBulk y1.1 ≤ Rows.uptoBulk (D i) := by
        rw [hD]
        have := bulk_mem (d := y1.1) (l := ys.map (·.1)) (List.mem_map.2 ⟨y1, List.mem_of_getElem? hy1, rfl⟩)
        simp only [Rows.uptoBulk]; omega
      have h2 : Rows.uptoBulk (D i) ≤ Rows.uptoBulkAll ((List.range len).map D) := bulk_mem (List.mem_map.2 ⟨i, List.mem_range.2 hil, rfl⟩)
      simp only [Rows.uptoBulk]
      omega
    obtain ⟨ts, htl, hts⟩ := list_of len _ hex
    refine ⟨some a, len, m, ts, rfl, htl.symm, hl, ?_, fun t ht => ?_, ?_, fun t ht => ?_, ?_⟩
    · rcases Nat.eq_zero_or_pos len with h0 | h0
      · exact .inl (List.eq_nil_of_length_eq_zero (by omega))
      · have hp : 0 < ts.length := by omega
        obtain ⟨⟨c0, -⟩, -⟩ := hts 0 _ (List.getElem?_eq_getElem hp)
        obtain ⟨b, o, rfl⟩ := lone_addr (by simpa using c0)
        refine .inr ⟨b, o, rfl, fun i t hi => ?_⟩
        obtain ⟨⟨c0, pa, pc, c1, hpc, hvs⟩, -⟩ := hts i t hi
        rw [add_plain] at c0 c1
        exact ⟨c0, pa, pc, by rw [Nat.add_assoc]; exact c1, hpc, hvs⟩
    · obtain ⟨i, hi, rfl⟩ := List.getElem_of_mem ht
      exact (hts i _ (List.getElem?_eq_getElem hi)).2.1
    · have := bulk_len ((List.range len).map D)
      simp only [List.length_map, List.length_range] at this
      simp only [Rows.uptoBulk]
      omega
    · obtain ⟨i, hi, rfl⟩ := List.getElem_of_mem ht
      exact (hts i _ (List.getElem?_eq_getElem hi)).2.2.1
    · have h1 := sum_le (fun t : T => t.part.length) ts D (fun i t ht => (hts i t ht).2.2.2)
      rw [htl, ← flat_sum] at h1
      simp only [Rows.uptoBulk]
      omega
end
end Go.Proofs.YtkkildkleleppaaGreatDoor
namespace Go.Proofs.YtkkildkleleppaaGreatDoor
open Go.RowKit Go.ChangeShapes Go.WideShapes Go.Deep

section
variable {H : Type} {enc : TypeId × Value → H} {P : Program} {w : World} {base : Nat} {spare : Nat → Bool} {held : Bool}
theorem trod_struct5 {t : TypeId} {f0 f1 f2 f3 f4 : Field} {fuel : Nat} {cs : List Value} {x : DataW H × List MemPlace} (ht : P.underlying t = some (.struct #[f0, f1, f2, f3, f4])) (h : DataW.trod enc P w base spare held fuel t cs = some x) :
    ∃ y0 y1 y2 y3 y4 n, x.1 = .agg [y0.1, y1.1, y2.1, y3.1, y4.1] ∧ cs.length = P.cellsOf t ∧ DataW.trod enc P w base spare held n f0.type ((cs.drop f0.offset).take (P.cellsOf f0.type)) = some y0 ∧
      DataW.trod enc P w base spare held n f1.type ((cs.drop f1.offset).take (P.cellsOf f1.type)) = some y1 ∧ DataW.trod enc P w base spare held n f2.type ((cs.drop f2.offset).take (P.cellsOf f2.type)) = some y2 ∧
      DataW.trod enc P w base spare held n f3.type ((cs.drop f3.offset).take (P.cellsOf f3.type)) = some y3 ∧ DataW.trod enc P w base spare held n f4.type ((cs.drop f4.offset).take (P.cellsOf f4.type)) = some y4 := by
  obtain ⟨xs, n, _, rfl, hl, hlen, hf⟩ := DataW.trod_struct ht h
  match xs, hlen with
  | [y0, y1, y2, y3, y4], _ => exact ⟨y0, y1, y2, y3, y4, n, by simp, hl, by simpa using hf 0 f0 rfl, by simpa using hf 1 f1 rfl, by simpa using hf 2 f2 rfl, by simpa using hf 3 f3 rfl, by simpa using hf 4 f4 rfl⟩
set_option maxRecDepth 100000 in
theorem arr12 {cs : Array Value} (h : cs.size = 12) : ∃ c0 c1 c2 c3 c4 c5 c6 c7 c8 c9 c10 c11, cs = #[c0, c1, c2, c3, c4, c5, c6, c7, c8, c9, c10, c11] := by
  obtain ⟨l⟩ := cs
  match l, h with
  | [c0, c1, c2, c3, c4, c5, c6, c7, c8, c9, c10, c11], _ => exact ⟨c0, c1, c2, c3, c4, c5, c6, c7, c8, c9, c10, c11, rfl⟩
set_option maxRecDepth 100000 in
theorem arr6 {cs : Array Value} (h : cs.size = 6) : ∃ c0 c1 c2 c3 c4 c5, cs = #[c0, c1, c2, c3, c4, c5] := by
  obtain ⟨l⟩ := cs
  match l, h with
  | [c0, c1, c2, c3, c4, c5], _ => exact ⟨c0, c1, c2, c3, c4, c5, rfl⟩
/-- A slice of things of one cell each. -/
theorem open_slice_one {t e : TypeId} {fuel : Nat} {cs : List Value} {x : DataW H × List MemPlace} (ht : P.underlying t = some (.slice e)) (hC : P.cellsOf e = 1) (h : DataW.trod enc P w base (fun _ => true) held fuel t cs = some x) :
    (cs = [.slice none 0 0] ∧ x = (.nil, [])) ∨
    ∃ (a : Addr) (len cap n : Nat) (D : Nat → DataW H) (Pl : Nat → List MemPlace), cs = [.slice (some a) len cap] ∧ len ≤ cap ∧
      x.1 = .slice ((List.range len).map D) ((List.range (cap - len)).map fun j => D (len + j)) ∧
      ∀ i, i < len → ∃ v, w.cell? (a.add i) = some v ∧ DataW.trod enc P w base (fun _ => true) held n e [v] = some (D i, Pl i) := by
  rcases open_slice ht h with h0 | ⟨a, len, cap, m, n, D, Pl, hcs, hb, hl, hm, hmm, hx, hi⟩
  · exact .inl h0
  · simp only [if_true] at hmm
    subst hmm
    refine .inr ⟨a, len, m, n, D, Pl, hcs, hl, by rw [hx], fun i him => ?_⟩
    obtain ⟨cs', hc, ht'⟩ := hi i (by omega)
    rw [hC, Nat.mul_one] at hc
    obtain ⟨_, hcl, hat⟩ := World.cells?_some hc
    match cs', hcl with
    | [v], _ =>
      have := hat 0 (by omega)
      rw [Go.Deep.add_add, Nat.add_zero] at this
      exact ⟨v, this, ht'⟩
end

section
variable {H : Type} {enc : TypeId × Value → H} {w : World} {base : Nat} {held : Bool}
theorem bulk_range {D : Nat → DataW H} {R : List (DataW H)} (len : Nat) : len ≤ Rows.uptoBulk (.slice ((List.range len).map D) R) := by
  have := bulk_len ((List.range len).map D)
  simp only [List.length_map, List.length_range] at this
  simp only [Rows.uptoBulk]
  omega
theorem open_ints {fuel : Nat} {cs : List Value} {x : DataW H × List MemPlace} (h : DataW.trod enc Tryz.prog w base (fun _ => true) held fuel 43 cs = some x) :
    ∃ (a : Option Addr) (n c : Nat) (l : List Int), cs = [.slice a n c] ∧ n = l.length ∧ n ≤ c ∧ IsIs w a l ∧ (∀ k ∈ l, In64 k) ∧ n ≤ Rows.uptoBulk x.1 := by
  rcases open_slice_one (P := Tryz.prog) Tryz.underlying43 (by kernel_rfl) h with ⟨rfl, rfl⟩ | ⟨a, len, cap, n, D, Pl, rfl, hl, hx, hi⟩
  · exact ⟨none, 0, 0, [], rfl, rfl, Nat.le_refl _, .inl rfl, (by intro v hv; cases hv), by simp [Rows.uptoBulk]⟩
  · have hex : ∀ i, i < len → ∃ k : Int, w.cell? (a.add i) = some (.int .i64 k) ∧ In64 k := by
      intro i hil
      obtain ⟨v, c0, t0⟩ := hi i hil
      obtain ⟨k, e0, -, w0⟩ := DataW.trod_int (P := Tryz.prog) Tryz.underlying3 t0
      injection e0 with e0
      subst e0
      have := bounds_i64 w0
      exact ⟨k, c0, by unfold In64; omega⟩
    obtain ⟨l, hll, hls⟩ := list_of len _ hex
    refine ⟨some a, len, cap, l, rfl, hll.symm, hl, ?_, fun k hk => ?_, by rw [hx]; exact bulk_range len⟩
    · rcases Nat.eq_zero_or_pos len with h0 | h0
      · exact .inl (List.eq_nil_of_length_eq_zero (by omega))
      · have hp : 0 < l.length := by omega
        obtain ⟨c0, -⟩ := hls 0 _ (List.getElem?_eq_getElem hp)
        obtain ⟨b, o, rfl⟩ := lone_addr c0
        refine .inr ⟨b, o, rfl, fun i v hi => ?_⟩
        obtain ⟨c0, -⟩ := hls i v hi
        rw [add_plain] at c0
        exact c0
    · obtain ⟨i, hi, rfl⟩ := List.getElem_of_mem hk
      exact (hls i _ (List.getElem?_eq_getElem hi)).2

/-- What a slice of values' text takes: its literals. -/
theorem lits_le (vs : List V) : (litsT vs).length ≤ (paramsT vs).length := by
  cases vs with
  | nil => simp [litsT]
  | cons v r =>
    have e : paramsT (v :: r) = 44 :: v.lit ++ paramsT r := by simp [paramsT]
    rw [e]
    simp only [litsT, List.length_append, List.length_cons, List.cons_append]
    omega
theorem bulk_agg {l : List (DataW H)} {d : DataW H} (h : d ∈ l) : Rows.uptoBulk d ≤ Rows.uptoBulk (.agg l) := by
  have := bulk_mem h
  simp only [Rows.uptoBulk]
  omega
theorem text_le (ts : List T) : (textS ts).length ≤ (flatT ts).length := by
  unfold textS
  split
  · omega
  · simp
theorem in64 {n : Int} (h : (Lit.int .i64 n).wf = true) : In64 n := by
  have := bounds_i64 h
  unfold In64
  omega

/-- A command, out of its reading. -/
theorem open_cmd {v : Value} {d : DataW H} {p : List MemPlace} {fuel : Nat} (hk : ∃ cs : Array Value, v = .agg cs) (h : DataW.trod enc Tryz.prog w base (fun _ => true) held fuel 47 v.cells.toList = some (d, p)) (hb : Rows.uptoBulk d ≤ 1048576) :
    ∃ c : C, IsC w v c ∧ FitC c ∧ (textS c.told).length ≤ 16700000 := by
  obtain ⟨cs, rfl⟩ := hk
  obtain ⟨y0, y1, y2, y3, n, hx, hlen, t0, t1, t2, t3⟩ := Go.Joins.trod_struct4 (P := Tryz.prog) Tryz.underlying47 h
  obtain ⟨z0, z1, z2, z3, z4, m, hz, -, s0, s1, s2, s3, s4⟩ := trod_struct5 (P := Tryz.prog) Tryz.underlying45 t1
  obtain ⟨q0, q1, q2, q3, q4, r, hq, -, u0, u1, u2, u3, u4⟩ := trod_struct5 (P := Tryz.prog) Tryz.underlying42 s1
  have hl12 : cs.size = 12 := by
    have : Tryz.prog.cellsOf 47 = 12 := by kernel_rfl
    rw [this] at hlen
    simpa [Value.cells] using hlen
  obtain ⟨c0, c1, c2, c3, c4, c5, c6, c7, c8, c9, c10, c11, rfl⟩ := arr12 hl12
  have k1 : Tryz.prog.cellsOf 37 = 1 := by kernel_rfl
  have k2 : Tryz.prog.cellsOf 45 = 9 := by kernel_rfl
  have k3 : Tryz.prog.cellsOf 3 = 1 := by kernel_rfl
  have k4 : Tryz.prog.cellsOf 22 = 1 := by kernel_rfl
  have k5 : Tryz.prog.cellsOf 38 = 1 := by kernel_rfl
  have k6 : Tryz.prog.cellsOf 42 = 5 := by kernel_rfl
  have k7 : Tryz.prog.cellsOf 4 = 1 := by kernel_rfl
  have k8 : Tryz.prog.cellsOf 43 = 1 := by kernel_rfl
  have k9 : Tryz.prog.cellsOf 39 = 1 := by kernel_rfl
  have k10 : Tryz.prog.cellsOf 9 = 1 := by kernel_rfl
  have k11 : Tryz.prog.cellsOf 40 = 1 := by kernel_rfl
  simp only [k1, k2, k3, k4, k5, k6, k7, k8, k9, k10, k11, Value.cells, List.drop_succ_cons, List.drop_zero, List.take_succ_cons, List.take_zero] at t0 t2 t3 s0 s2 s3 s4 u0 u1 u2 u3 u4
  obtain ⟨a0, e0, -, -⟩ := DataW.trod_int (P := Tryz.prog) Tryz.underlying37 t0
  obtain ⟨a1, e1, -, -⟩ := DataW.trod_int (P := Tryz.prog) Tryz.underlying38 s0
  obtain ⟨a2, e2, -, -⟩ := DataW.trod_int (P := Tryz.prog) Tryz.underlying39 u0
  obtain ⟨a3, e3, -, w3⟩ := DataW.trod_int (P := Tryz.prog) Tryz.underlying3 u1
  obtain ⟨a4, e4, -, w4⟩ := DataW.trod_int (P := Tryz.prog) Tryz.underlying3 u2
  obtain ⟨a5, e5, b5, -⟩ := DataW.trod_string (P := Tryz.prog) Tryz.underlying9 u3
  obtain ⟨pa, pn, pc, ps, e6, hpn, hpc, hps, hfp, hbp, hlp⟩ := open_values2 u4
  obtain ⟨a7, e7, -, w7⟩ := DataW.trod_int (P := Tryz.prog) Tryz.underlying3 s2
  obtain ⟨a8, e8, -⟩ := DataW.trod_bool (P := Tryz.prog) Tryz.underlying4 s3
  obtain ⟨ca, cn, cc, ch, e9, hcn, hcc, hch, hfc, hbc⟩ := open_ints s4
  obtain ⟨a10, e10, -, w10⟩ := DataW.trod_int (P := Tryz.prog) Tryz.underlying3 t2
  obtain ⟨ta, tn, tc, ts, e11, htn, htc, hts, hft, hbt, hpt, hfl⟩ := open_told2 t3
  injection e0 with e0
  injection e1 with e1
  injection e2 with e2
  injection e3 with e3
  injection e4 with e4
  injection e5 with e5
  injection e6 with e6
  injection e7 with e7
  injection e8 with e8
  injection e9 with e9
  injection e10 with e10
  injection e11 with e11
  subst e0 e1 e2 e3 e4 e5 e6 e7 e8 e9 e10 e11 hpn hcn htn
  have hd : d = .agg [y0.1, y1.1, y2.1, y3.1] := congrArg Prod.fst hx
  have B1 : Rows.uptoBulk y1.1 ≤ 1048576 := Nat.le_trans (by rw [hd]; exact bulk_agg (by simp)) hb
  have B3 : Rows.uptoBulk y3.1 ≤ 1048576 := Nat.le_trans (by rw [hd]; exact bulk_agg (by simp)) hb
  have B11 : Rows.uptoBulk z1.1 ≤ 1048576 := Nat.le_trans (by rw [hz]; exact bulk_agg (by simp)) B1
  have B14 : Rows.uptoBulk z4.1 ≤ 1048576 := Nat.le_trans (by rw [hz]; exact bulk_agg (by simp)) B1
  have B13 : Rows.uptoBulk q3.1 ≤ 1048576 := Nat.le_trans (by rw [hq]; exact bulk_agg (by simp)) B11
  have B15 : Rows.uptoBulk q4.1 ≤ 1048576 := Nat.le_trans (by rw [hq]; exact bulk_agg (by simp)) B11
  have B5 : Rows.uptoBulk q3.1 = a5.size + 1 := by rw [b5]; simp only [Rows.uptoBulk, size_len]
  refine ⟨⟨a0, a1, a2, a3, a4, a5, ps, a7, a8, ch, a10, ts⟩, ⟨pa, pc, ca, cc, ta, tc, rfl, hpc, hcc, htc, hps, hch, hts⟩, ?_⟩
  have l1 := lits_le ps
  have l2 := text_le ts
  exact ⟨⟨in64 w3, in64 w4, in64 w7, in64 w10, hfc, by simp only; omega, by simp only; omega, by simp only; omega, hfp, by simp only; omega, by simp only; omega, fun t ht => by have := hpt t ht; omega, hft, by simp only; omega⟩, by simp only; omega⟩

theorem joinTail_len (r : List ByteArray) : (Lib.joinTail [44] (r.map (·.data.toList))).length = (r.map (fun s => s.size + 1)).sum := by
  unfold Lib.joinTail
  induction r with
  | nil => rfl
  | cons s r ih =>
    simp only [List.map_cons, List.flatten_cons, List.length_append, List.sum_cons, ih, List.length_cons, List.length_nil, size_len]
    omega
theorem names_sum (l : List ByteArray) : (namesT l).length ≤ (l.map (fun s => s.size + 1)).sum := by
  unfold namesT
  cases l with
  | nil => simp [Lib.join_nil]
  | cons s r =>
    rw [List.map_cons, Lib.join_cons, List.length_append, joinTail_len, List.map_cons, List.sum_cons, size_len]
    omega
theorem rows_sum (l : List (List V)) : (rowsT l).length = (l.map (fun r => (litsT r).length + 1)).sum := by
  unfold rowsT
  induction l with
  | nil => rfl
  | cons r l ih =>
    simp [ih]
    omega
theorem open_strs {fuel : Nat} {cs : List Value} {x : DataW H × List MemPlace} (h : DataW.trod enc Tryz.prog w base (fun _ => true) held fuel 57 cs = some x) :
    ∃ (a : Option Addr) (n c : Nat) (l : List ByteArray), cs = [.slice a n c] ∧ n = l.length ∧ n ≤ c ∧ IsSs w a l ∧ n ≤ Rows.uptoBulk x.1 ∧ (namesT l).length ≤ 12 * Rows.uptoBulk x.1 := by
  rcases open_slice_one (P := Tryz.prog) Tryz.underlying57 (by kernel_rfl) h with ⟨rfl, rfl⟩ | ⟨a, len, cap, n, D, Pl, rfl, hl, hx, hi⟩
  · exact ⟨none, 0, 0, [], rfl, rfl, Nat.le_refl _, .inl rfl, by simp [Rows.uptoBulk], by simp [namesT, Lib.join_nil]⟩
  · have hex : ∀ i, i < len → ∃ s : ByteArray, w.cell? (a.add i) = some (.string s) ∧ s.size + 1 ≤ 12 * Rows.uptoBulk (D i) := by
      intro i hil
      obtain ⟨v, c0, t0⟩ := hi i hil
      obtain ⟨s, e0, b0, -⟩ := DataW.trod_string (P := Tryz.prog) Tryz.underlying9 t0
      injection e0 with e0
      subst e0
      have e : D i = .lit (.string s.data.toList) := congrArg Prod.fst b0
      refine ⟨s, c0, ?_⟩
      rw [e]
      simp only [Rows.uptoBulk, size_len]
      omega
    obtain ⟨l, hll, hls⟩ := list_of len _ hex
    refine ⟨some a, len, cap, l, rfl, hll.symm, hl, ?_, by rw [hx]; exact bulk_range len, ?_⟩
    · rcases Nat.eq_zero_or_pos len with h0 | h0
      · exact .inl (List.eq_nil_of_length_eq_zero (by omega))
      · have hp : 0 < l.length := by omega
        obtain ⟨c0, -⟩ := hls 0 _ (List.getElem?_eq_getElem hp)
        obtain ⟨b, o, rfl⟩ := lone_addr c0
        refine .inr ⟨b, o, rfl, fun i v hi => ?_⟩
        obtain ⟨c0, -⟩ := hls i v hi
        rw [add_plain] at c0
        exact c0
    · have h1 := sum_le (fun s : ByteArray => s.size + 1) l D (fun i s hs => (hls i s hs).2)
      have h2 := names_sum l
      rw [hll] at h1
      rw [hx]
      simp only [Rows.uptoBulk]
      omega
theorem open_rows {fuel : Nat} {cs : List Value} {x : DataW H × List MemPlace} (h : DataW.trod enc Tryz.prog w base (fun _ => true) held fuel 58 cs = some x) :
    ∃ (a : Option Addr) (n c : Nat) (l : List (List V)), cs = [.slice a n c] ∧ n = l.length ∧ n ≤ c ∧ IsRs w a l ∧ (∀ r ∈ l, fitVs r ∧ r.length ≤ Rows.uptoBulk x.1) ∧ n ≤ Rows.uptoBulk x.1 ∧ (rowsT l).length ≤ 12 * Rows.uptoBulk x.1 := by
  rcases open_slice_one (P := Tryz.prog) Tryz.underlying58 (by kernel_rfl) h with ⟨rfl, rfl⟩ | ⟨a, len, cap, n, D, Pl, rfl, hl, hx, hi⟩
  · exact ⟨none, 0, 0, [], rfl, rfl, Nat.le_refl _, .inl rfl, (by intro v hv; cases hv), by simp [Rows.uptoBulk], by simp [rowsT]⟩
  · have hex : ∀ i, i < len → ∃ r : List V, (∃ pa pc, w.cell? (a.add i) = some (.slice pa r.length pc) ∧ r.length ≤ pc ∧ IsVs w pa r) ∧ (fitVs r ∧ r.length ≤ Rows.uptoBulk x.1) ∧ (litsT r).length + 1 ≤ 12 * Rows.uptoBulk (D i) := by
      intro i hil
      obtain ⟨v, c0, t0⟩ := hi i hil
      obtain ⟨pa, pn, pc, vs, e1, hn, hc, hvs, hfit, hbk, hpl⟩ := open_values2 t0
      injection e1 with e1
      subst e1 hn
      have h1 := bulk_one (D i)
      have h2 : Rows.uptoBulk (D i) ≤ Rows.uptoBulkAll ((List.range len).map D) := bulk_mem (List.mem_map.2 ⟨i, List.mem_range.2 hil, rfl⟩)
      refine ⟨vs, ⟨pa, pc, c0, hc, hvs⟩, ⟨hfit, ?_⟩, ?_⟩
      · rw [hx]
        simp only [Rows.uptoBulk] at hbk ⊢
        omega
      · cases vs with
        | nil => simp [litsT]; omega
        | cons u r =>
          have e : paramsT (u :: r) = 44 :: u.lit ++ paramsT r := by simp [paramsT]
          rw [e] at hpl
          simp only [litsT, List.length_append, List.length_cons, List.cons_append] at hpl ⊢
          omega
    obtain ⟨l, hll, hls⟩ := list_of len _ hex
    refine ⟨some a, len, cap, l, rfl, hll.symm, hl, ?_, fun r hr => ?_, by rw [hx]; exact bulk_range len, ?_⟩
    · rcases Nat.eq_zero_or_pos len with h0 | h0
      · exact .inl (List.eq_nil_of_length_eq_zero (by omega))
      · have hp : 0 < l.length := by omega
        obtain ⟨⟨pa, pc, c0, -⟩, -⟩ := hls 0 _ (List.getElem?_eq_getElem hp)
        obtain ⟨b, o, rfl⟩ := lone_addr c0
        refine .inr ⟨b, o, rfl, fun i v hi => ?_⟩
        obtain ⟨⟨pa, pc, c0, h1, h2⟩, -⟩ := hls i v hi
        rw [add_plain] at c0
        exact ⟨pa, pc, c0, h1, h2⟩
    · obtain ⟨i, hi, rfl⟩ := List.getElem_of_mem hr
      exact (hls i _ (List.getElem?_eq_getElem hi)).2.1
    · have h1 := sum_le (fun r : List V => (litsT r).length + 1) l D (fun i s hs => (hls i s hs).2.2)
      rw [hll, ← rows_sum] at h1
      rw [hx]
      simp only [Rows.uptoBulk]
      omega
/-- An answer, out of its reading. -/
theorem open_ans {v : Value} {d : DataW H} {p : List MemPlace} {fuel : Nat} (hk : ∃ cs : Array Value, v = .agg cs) (h : DataW.trod enc Tryz.prog w base (fun _ => true) held fuel 62 v.cells.toList = some (d, p)) (hb : Rows.uptoBulk d ≤ 1048576) :
    ∃ a : A, IsA w v a ∧ FitA a := by
  obtain ⟨cs, rfl⟩ := hk
  obtain ⟨y0, y1, y2, y3, n, hx, hlen, t0, t1, t2, t3⟩ := Go.Joins.trod_struct4 (P := Tryz.prog) Tryz.underlying62 h
  obtain ⟨z0, z1, z2, m, hz, -, s0, s1, s2⟩ := trod_struct3 (P := Tryz.prog) Tryz.underlying60 t3
  have hl12 : cs.size = 6 := by
    have : Tryz.prog.cellsOf 62 = 6 := by kernel_rfl
    rw [this] at hlen
    simpa [Value.cells] using hlen
  obtain ⟨c0, c1, c2, c3, c4, c5, rfl⟩ := arr6 hl12
  have k1 : Tryz.prog.cellsOf 23 = 1 := by kernel_rfl
  have k2 : Tryz.prog.cellsOf 60 = 3 := by kernel_rfl
  have k3 : Tryz.prog.cellsOf 3 = 1 := by kernel_rfl
  have k4 : Tryz.prog.cellsOf 57 = 1 := by kernel_rfl
  have k5 : Tryz.prog.cellsOf 58 = 1 := by kernel_rfl
  have k7 : Tryz.prog.cellsOf 4 = 1 := by kernel_rfl
  simp only [k1, k2, k3, k4, k5, k7, Value.cells, List.drop_succ_cons, List.drop_zero, List.take_succ_cons, List.take_zero] at t0 t1 t2 s0 s1 s2
  obtain ⟨a0, e0, -, w0⟩ := DataW.trod_int (P := Tryz.prog) Tryz.underlying23 t0
  obtain ⟨a1, e1, -, w1⟩ := DataW.trod_int (P := Tryz.prog) Tryz.underlying3 t1
  obtain ⟨a2, e2, -⟩ := DataW.trod_bool (P := Tryz.prog) Tryz.underlying4 t2
  obtain ⟨na, nn, nc, ns, e3, hnn, hnc, hns, hbn, hln⟩ := open_strs s0
  obtain ⟨ra, rn, rc, rs, e4, hrn, hrc, hrs, hfr, hbr, hlr⟩ := open_rows s1
  obtain ⟨a5, e5, -, w5⟩ := DataW.trod_int (P := Tryz.prog) Tryz.underlying3 s2
  injection e0 with e0
  injection e1 with e1
  injection e2 with e2
  injection e3 with e3
  injection e4 with e4
  injection e5 with e5
  subst e0 e1 e2 e3 e4 e5 hnn hrn
  have hd : d = .agg [y0.1, y1.1, y2.1, y3.1] := congrArg Prod.fst hx
  have hz3 : y3.1 = .agg [z0.1, z1.1, z2.1] := by rw [hz]
  have B3 : Rows.uptoBulk y3.1 ≤ 1048576 := Nat.le_trans (by rw [hd]; exact bulk_agg (by simp)) hb
  have B0 : Rows.uptoBulk z0.1 ≤ 1048576 := Nat.le_trans (by rw [hz3]; exact bulk_agg (by simp)) B3
  have B1 : Rows.uptoBulk z1.1 ≤ 1048576 := Nat.le_trans (by rw [hz3]; exact bulk_agg (by simp)) B3
  refine ⟨⟨a0, a1, a2, ns, rs, a5⟩, ⟨na, nc, ra, rc, rfl, hnc, hrc, hns, hrs⟩, ?_⟩
  exact ⟨in64 w0, in64 w1, in64 w5, by simp only; omega, by simp only; omega, by simp only; omega, fun r hr => ⟨(hfr r hr).1, by have := (hfr r hr).2; omega⟩, by simp only; omega⟩
end
end Go.Proofs.YtkkildkleleppaaGreatDoor
