/- From the form's readings to this seat's words: values, rows of values, things told; what the bound gives. -/
import Derived.Test.YtkkildkleleppaaDoorRows
import Derived.Test.YtkkildkleleppaaDoorRtext
import Derived.Deep.Slices
import Derived.Deep.Fields
import Derived.ChangeSame
import Derived.WideKeyArgs
import Derived.OpenShut
namespace Go.Proofs.YtkkildkleleppaaDoor
open Go.RowKit Go.ChangeShapes Go.WideShapes Go.Deep

/-! ### The bound -/
theorem bulk_one {H : Type} (d : DataW H) : 1 ≤ Rows.uptoBulk d := by
  cases d with
  | lit l => cases l <;> simp [Rows.uptoBulk]
  | _ => simp [Rows.uptoBulk]
theorem bulk_mem {H : Type} {d : DataW H} {l : List (DataW H)} (h : d ∈ l) : Rows.uptoBulk d ≤ Rows.uptoBulkAll l := by
  induction l with
  | nil => cases h
  | cons x r ih =>
    simp only [Rows.uptoBulkAll]
    rcases List.mem_cons.1 h with rfl | h
    · omega
    · have := ih h; omega
theorem bulk_len {H : Type} (l : List (DataW H)) : l.length ≤ Rows.uptoBulkAll l := by
  induction l with
  | nil => simp [Rows.uptoBulkAll]
  | cons x r ih => have := bulk_one x; simp only [Rows.uptoBulkAll, List.length_cons]; omega
theorem bulk_all {H : Type} {l : List (DataW H)} (h : Rows.uptoSmall H l = true) : Rows.uptoBulkAll l ≤ 1048576 := of_decide_eq_true h

/-- A list of what there is at each place. -/
theorem list_of {α : Type} (n : Nat) (p : Nat → α → Prop) (h : ∀ i, i < n → ∃ x, p i x) : ∃ l : List α, l.length = n ∧ ∀ i x, l[i]? = some x → p i x := by
  induction n with
  | zero => exact ⟨[], rfl, by simp⟩
  | succ n ih =>
    obtain ⟨l, hl, hp⟩ := ih fun i hi => h i (by omega)
    obtain ⟨x, hx⟩ := h n (by omega)
    refine ⟨l ++ [x], by simp [hl], fun i y hy => ?_⟩
    rcases Nat.lt_or_ge i n with hi | hi
    · rw [List.getElem?_append_left (by omega)] at hy
      exact hp i y hy
    · have hin : i = n := by
        rcases Nat.lt_or_ge n i with h1 | h1
        · rw [List.getElem?_eq_none (by simp; omega)] at hy; cases hy
        · omega
      subst hin
      rw [List.getElem?_append_right (by omega), hl] at hy
      simp at hy
      subst hy
      exact hx

section
variable {H : Type} {enc : TypeId × Value → H} {P : Program} {w : World} {base : Nat} {spare : Nat → Bool} {held : Bool}
theorem open_slice_fields {t e : TypeId} {fs : Array Field} {fuel : Nat} {cs : List Value} {x : DataW H × List MemPlace} (ht : P.underlying t = some (.slice e)) (he : P.underlying e = some (.struct fs))
    (hone : oneCellFields P fs = true) (hC : P.cellsOf e = fs.size) (h : DataW.trod enc P w base spare held fuel t cs = some x) :
    (cs = [.slice none 0 0] ∧ x = (.nil, [])) ∨
    ∃ (a : Addr) (len cap m : Nat) (D : Nat → DataW H) (Pl : Nat → List MemPlace), cs = [.slice (some a) len cap] ∧ base ≤ a.block ∧ len ≤ cap ∧ cap ≤ maxLen ∧ m = (if spare a.block then cap else len) ∧
      x = (.slice ((List.range len).map D) ((List.range (m - len)).map fun j => D (len + j)), MemPlace.row a (m * fs.size) ++ (List.range m).flatMap Pl) ∧
      ∀ i, i < m → ∃ (ys : List (DataW H × List MemPlace)) (n : Nat), D i = .agg (ys.map (·.1)) ∧ Pl i = ys.flatMap (·.2) ∧ ys.length = fs.size ∧
        ∀ (j : Nat) (f : Field), fs[j]? = some f → ∃ (v : Value) (y : DataW H × List MemPlace), w.cell? (a.add (i * fs.size + j)) = some v ∧ ys[j]? = some y ∧ DataW.trod enc P w base spare held n f.type [v] = some y := by
  rcases open_slice ht h with h0 | ⟨a, len, cap, m, n, D, Pl, hcs, hb, hl, hm, hmm, hx, hi⟩
  · exact .inl h0
  · refine .inr ⟨a, len, cap, m, D, Pl, hcs, hb, hl, hm, hmm, by rw [hC] at hx; exact hx, fun i him => ?_⟩
    obtain ⟨cs', hc, ht'⟩ := hi i him
    rw [hC] at hc
    obtain ⟨ys, n', hn', hy, hlen, hyl, hf⟩ := DataW.trod_struct he ht'
    obtain ⟨_, hcl, hat⟩ := World.cells?_some hc
    simp only [Prod.mk.injEq] at hy
    refine ⟨ys, n', hy.1, hy.2, hyl, fun j f hj => ?_⟩
    obtain ⟨ho, hk⟩ := hone_of hone j f hj
    have hjl : j < fs.size := (Array.getElem?_eq_some_iff.1 hj).1
    have hcell := hat j hjl
    have hv : cs'[j]? = some (cs'[j]'(by omega)) := List.getElem?_eq_getElem (by omega)
    have h1 := hf j f hj
    rw [ho, hk] at h1
    have hone' : (cs'.drop j).take 1 = [cs'[j]'(by omega)] := by
      rw [List.drop_eq_getElem_cons (by omega)]
      rfl
    rw [hone'] at h1
    have hys : ys[j]? = some (ys[j]'(by omega)) := List.getElem?_eq_getElem (by omega)
    refine ⟨_, _, ?_, hys, h1.trans hys⟩
    rw [← Go.Deep.add_add, hcell, hv]
end

section
variable {H : Type} {enc : TypeId × Value → H} {w : World} {base : Nat} {held : Bool}
theorem lone_addr {a : Addr} {v : Value} (h : w.cell? (a.add 0) = some v) : ∃ b o, a = ⟨b, o, none⟩ := by
  obtain ⟨b, o, spot⟩ := a
  have : spot = none := by simpa [Addr.add] using World.cell?_spot h
  subst this
  exact ⟨b, o, rfl⟩
/-- A slice of values, out of its reading. -/
theorem open_values {fuel : Nat} {cs : List Value} {x : DataW H × List MemPlace} (h : DataW.trod enc Tryd.prog w base (fun _ => true) held fuel 32 cs = some x) :
    ∃ (a : Option Addr) (n c : Nat) (vs : List V), cs = [.slice a n c] ∧ n = vs.length ∧ n ≤ c ∧ IsVs w a vs ∧ fitVs vs ∧ n ≤ Rows.uptoBulk x.1 := by
  rcases open_slice_fields (P := Tryd.prog) Tryd.underlying32 Tryd.underlying47 (by kernel_rfl) (by kernel_rfl) h with ⟨rfl, rfl⟩ | ⟨a, len, cap, m, D, Pl, rfl, hb, hl, hm, hmm, rfl, hi⟩
  · exact ⟨none, 0, 0, [], rfl, rfl, Nat.le_refl _, IsVs.nil_ _ _, (by intro v hv; cases hv), by simp [Rows.uptoBulk]⟩
  · simp only [if_true] at hmm
    subst hmm
    have hex : ∀ i, i < len → ∃ v : V, (w.cell? (a.add (i * 3)) = some (.int .i64 v.k) ∧ w.cell? (a.add (i * 3 + 1)) = some (.int .i64 v.n) ∧ w.cell? (a.add (i * 3 + 2)) = some (.string v.s)) ∧ v.fit := by
      intro i hil
      obtain ⟨ys, n, -, -, -, hf⟩ := hi i (by omega)
      obtain ⟨v0, y0, c0, -, t0⟩ := hf 0 _ rfl
      obtain ⟨v1, y1, c1, -, t1⟩ := hf 1 _ rfl
      obtain ⟨v2, y2, c2, -, t2⟩ := hf 2 _ rfl
      obtain ⟨k, e0, -, -⟩ := DataW.trod_int (P := Tryd.prog) Tryd.underlying45 t0
      obtain ⟨n, e1, -, w1⟩ := DataW.trod_int (P := Tryd.prog) Tryd.underlying2 t1
      obtain ⟨s, e2, -, -⟩ := DataW.trod_string (P := Tryd.prog) Tryd.underlying9 t2
      injection e0 with e0
      injection e1 with e1
      injection e2 with e2
      subst e0 e1 e2
      refine ⟨⟨k, n, s⟩, ⟨c0, c1, c2⟩, ?_⟩
      have := bounds_i64 w1
      exact ⟨by simp only; omega, by simp only; omega⟩
    obtain ⟨vs, hvl, hvs⟩ := list_of len _ hex
    refine ⟨some a, len, m, vs, rfl, hvl.symm, hl, ?_, fun v hv => ?_, ?_⟩
    · rcases Nat.eq_zero_or_pos len with h0 | h0
      · exact .inl (List.eq_nil_of_length_eq_zero (by omega))
      · have hp : 0 < vs.length := by omega
        obtain ⟨⟨c0, -, -⟩, -⟩ := hvs 0 _ (List.getElem?_eq_getElem hp)
        obtain ⟨b, o, rfl⟩ := lone_addr (by simpa using c0)
        refine .inr ⟨b, o, rfl, fun i v hi => ?_⟩
        obtain ⟨⟨c0, c1, c2⟩, -⟩ := hvs i v hi
        rw [add_plain] at c0 c1 c2
        exact ⟨c0, by rw [Nat.add_assoc]; exact c1, by rw [Nat.add_assoc]; exact c2⟩
    · obtain ⟨i, hi, rfl⟩ := List.getElem_of_mem hv
      exact (hvs i _ (List.getElem?_eq_getElem hi)).2
    · have := bulk_len ((List.range len).map D)
      simp only [List.length_map, List.length_range] at this
      simp only [Rows.uptoBulk]
      omega
/-- A slice of things told, out of its reading. -/
theorem open_told {fuel : Nat} {cs : List Value} {x : DataW H × List MemPlace} (h : DataW.trod enc Tryd.prog w base (fun _ => true) held fuel 22 cs = some x) :
    ∃ (a : Option Addr) (n c : Nat) (ts : List T), cs = [.slice a n c] ∧ n = ts.length ∧ n ≤ c ∧ IsTs w a ts ∧ fitTs ts ∧ n ≤ Rows.uptoBulk x.1 ∧ ∀ t ∈ ts, t.ps.length ≤ Rows.uptoBulk x.1 := by
  rcases open_slice_fields (P := Tryd.prog) Tryd.underlying22 Tryd.underlying34 (by kernel_rfl) (by kernel_rfl) h with ⟨rfl, rfl⟩ | ⟨a, len, cap, m, D, Pl, rfl, hb, hl, hm, hmm, rfl, hi⟩
  · exact ⟨none, 0, 0, [], rfl, rfl, Nat.le_refl _, .inl rfl, (by intro v hv; cases hv), by simp [Rows.uptoBulk], (by intro v hv; cases hv)⟩
  · simp only [if_true] at hmm
    subst hmm
    have hex : ∀ i, i < len → ∃ t : T, (w.cell? (a.add (i * 2)) = some (.string t.sql) ∧ ∃ pa pc, w.cell? (a.add (i * 2 + 1)) = some (.slice pa t.ps.length pc) ∧ t.ps.length ≤ pc ∧ IsVs w pa t.ps) ∧ fitVs t.ps ∧ t.ps.length ≤ Rows.uptoBulk (.slice ((List.range len).map D) ((List.range (m - len)).map fun j => D (len + j))) := by
      intro i hil
      obtain ⟨ys, n, hD, -, hyl, hf⟩ := hi i (by omega)
      obtain ⟨v0, y0, c0, -, t0⟩ := hf 0 _ rfl
      obtain ⟨v1, y1, c1, hy1, t1⟩ := hf 1 _ rfl
      obtain ⟨s, e0, -, -⟩ := DataW.trod_string (P := Tryd.prog) Tryd.underlying9 t0
      obtain ⟨pa, pn, pc, vs, e1, hn, hc, hvs, hfit, hbk⟩ := open_values t1
      injection e0 with e0
      injection e1 with e1
      subst e0 e1 hn
      refine ⟨⟨s, vs⟩, ⟨c0, pa, pc, c1, hc, hvs⟩, hfit, ?_⟩
      have h1 : Rows.uptoBulk y1.1 ≤ Rows.uptoBulk (D i) := by
        rw [hD]
        have := bulk_mem (d := y1.1) (l := ys.map (·.1)) (List.mem_map.2 ⟨y1, List.mem_of_getElem? hy1, rfl⟩)
        simp only [Rows.uptoBulk]; omega
      have h2 : Rows.uptoBulk (D i) ≤ Rows.uptoBulkAll ((List.range len).map D) := bulk_mem (List.mem_map.2 ⟨i, List.mem_range.2 hil, rfl⟩)
      simp only [Rows.uptoBulk]
      omega
    obtain ⟨ts, htl, hts⟩ := list_of len _ hex
    refine ⟨some a, len, m, ts, rfl, htl.symm, hl, ?_, fun t ht => ?_, ?_, fun t ht => ?_⟩
    · rcases Nat.eq_zero_or_pos len with h0 | h0
      · exact .inl (List.eq_nil_of_length_eq_zero (by omega))
      · have hp : 0 < ts.length := by omega
        obtain ⟨⟨c0, -⟩, -⟩ := hts 0 _ (List.getElem?_eq_getElem hp)
        obtain ⟨b, o, rfl⟩ := lone_addr (by simpa using c0)
        refine .inr ⟨b, o, rfl, fun i t hi => ?_⟩
        obtain ⟨⟨c0, pa, pc, c1, hpc, hvs⟩, -⟩ := hts i t hi
        rw [add_plain] at c0 c1
        exact ⟨c0, pa, pc, by rw [Nat.add_assoc]; exact c1, hpc, hvs⟩
    · obtain ⟨i, hi, rfl⟩ := List.getElem_of_mem ht
      exact (hts i _ (List.getElem?_eq_getElem hi)).2.1
    · have := bulk_len ((List.range len).map D)
      simp only [List.length_map, List.length_range] at this
      simp only [Rows.uptoBulk]
      omega
    · obtain ⟨i, hi, rfl⟩ := List.getElem_of_mem ht
      exact (hts i _ (List.getElem?_eq_getElem hi)).2.2
end
end Go.Proofs.YtkkildkleleppaaDoor
