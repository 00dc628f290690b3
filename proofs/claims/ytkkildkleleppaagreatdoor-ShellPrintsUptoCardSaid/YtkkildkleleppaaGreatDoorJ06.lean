/- The reference's text of things told. From the form's readings to this seat's words: values, rows of values, things told; what the bound gives. -/
import Derived.Test.YtkkildkleleppaaGreatDoorJ05
import Derived.Lib.ItoaLen
import Derived.Test.YtkkildkleleppaaGreatDoorRows
import Derived.Deep.Slices
import Derived.Deep.Fields
import Derived.ChangeSame
import Derived.WideKeyArgs
import Derived.OpenShut
namespace Go.Proofs.YtkkildkleleppaaGreatDoor
open Go.RowKit

set_option maxHeartbeats 1000000 in
theorem rtPrint_text (b o c : Nat) (s : ByteArray) (hs : s.size ≤ 16777216) (w : World)
    (h0 : w.cell? ⟨b, o, none⟩ = some (.int .i64 3)) (h1 : w.cell? ⟨b, o + 1, none⟩ = some (.int .i64 0)) (h2 : w.cell? ⟨b, o + 2, none⟩ = some (.string s)) :
    Calls Tryz.prog 72 #[.slice (some ⟨b, o, none⟩) 1 c] w (Ret w (.tuple #[.string ⟨(quoted s.data.toList).toArray⟩, .int .i64 0])) := by
  have hl := dbl_len s.data.toList
  rw [size_len] at hl
  have hq := quoted_len s.data.toList
  have hq2 : (quoted s.data.toList).length ≤ 33554434 := by omega
  clear hq hl
  go_enter Tryz.func72, Tryz.ntmps72
  go_wp2
  go_loopw [4, 5, 6, 7] (fun out i _ _ wr => ∃ k : Nat, k ≤ 1 ∧ i = .int .i64 k ∧ out = .string ⟨(if k = 0 then [] else quoted s.data.toList).toArray⟩ ∧ Below w.heap.size w wr) (fun _ i _ _ _ => 1 - (intOf i).toNat)
  case atStart => exact ⟨0, by omega, rfl, rfl, Below.refl _ _⟩
  case round =>
    obtain ⟨k, hk, rfl, rfl, hb⟩ := hrel
    by_cases hlt : k < 1
    · obtain rfl : k = 0 := by omega
      rw [if_pos rfl]
      have q0 := (hb.cell (lt_of_cell h0)).trans h0
      have q1 := (hb.cell (lt_of_cell h1)).trans h1
      have q2 := (hb.cell (lt_of_cell h2)).trans h2
      clear h0 h1 h2
      go_wp2_with (go_at_call 120; refine (rwritten_text 0 s hs _).mono ?_; rintro e w2 ⟨rfl, hb2⟩)
      go_roundw
      case rel =>
        refine ⟨1, by omega, by go_num, ?_, hb.trans (hb2.mono hb.size)⟩
        rw [if_neg (by decide)]
        have := cat_str [] (quoted s.data.toList)
        rw [List.nil_append] at this
        exact congrArg Value.string this
      case measure => simp [intOf]
    · obtain rfl : k = 1 := by omega
      rw [if_neg (by decide)]
      go_wp2_with fail
      go_ret2
      exact ⟨rfl, hb⟩

def fitVs (vs : List V) : Prop := ∀ v ∈ vs, v.fit
theorem paramsT_append (a b : List V) : paramsT (a ++ b) = paramsT a ++ paramsT b := by simp [paramsT]
theorem itoa_len (n : Int) (h : -9223372036854775808 ≤ n ∧ n ≤ 9223372036854775807) : (Lib.itoa n).length ≤ 21 := by
  unfold Lib.itoa
  split
  · rw [List.length_cons, Lib.decDigits_length]
    have := Lib.nDigits_le20 n.natAbs (by omega)
    omega
  · rw [Lib.decDigits_length]
    have := Lib.nDigits_le20 n.toNat (by omega)
    omega
theorem lit_len (v : V) (hf : v.fit) : v.lit.length ≤ 803 := by
  unfold V.lit
  by_cases hm : v.may = true
  · rw [if_pos hm]
    rcases may_cases v hm with h | h | ⟨h, _, h3⟩ | ⟨h, _, h3⟩
    · simp [h]
    · have := itoa_len v.n hf; simp [h]; omega
    · have := dbl_len v.s.data.toList; rw [size_len] at this; simp [h, quoted]; omega
    · have := hexs_len v.s.data.toList; rw [size_len] at this; simp [h, blobbed]; omega
  · rw [if_neg hm]; simp
theorem paramsT_len (vs : List V) (hf : fitVs vs) : (paramsT vs).length ≤ 804 * vs.length := by
  induction vs with
  | nil => simp [paramsT]
  | cons v r ih =>
    have h1 := lit_len v (hf v (by simp))
    have h2 := ih (fun x hx => hf x (by simp [hx]))
    have : paramsT (v :: r) = 44 :: v.lit ++ paramsT r := by simp [paramsT]
    rw [this]; simp; omega

set_option maxHeartbeats 1000000 in
theorem rPart_any (sql : ByteArray) (a : Option Addr) (n c : Nat) (ps : List V) (hn : n = ps.length) (hs : sql.size ≤ 16777216) (hl : n ≤ 16777216) (hf : fitVs ps) (w : World) (hE : Env w) (h : IsVs w a ps) :
    Calls Tryz.prog 33 #[toldV sql a n c] w (Ret w (.string ⟨(T.part ⟨sql, ps⟩).toArray⟩)) := by
  have HN := Lib.hid hn
  have HE := Lib.hid hE
  have HF := Lib.hid hf
  clear hn hE hf
  have hdl := dbl_len sql.data.toList
  rw [size_len] at hdl
  have hq := quoted_len sql.data.toList
  have hq2 : (quoted sql.data.toList).length ≤ 33554434 := by omega
  clear hq hdl
  simp only [toldV]
  go_enter Tryz.func33, Tryz.ntmps33
  go_wp2_with (go_at_call 72; refine (rtPrint_text (w.heap.size + 1) 0 1 sql hs _ (by simp [go_sem]) (by simp [go_sem]) (by simp [go_sem])).mono ?_; rintro e w2 ⟨rfl, hb2⟩; have hbx : Below (w.heap.size + 1) (w.alloc (.cells #[.string sql, .slice a n c] 71)) w2 := ((Below.refl _ _).alloc (by simp) _).trans (hb2.mono (by simp)); clear hb2)
  go_loopw [3, 5, 6, 7] (fun out i _ _ wr => ∃ k : Nat, k ≤ n ∧ i = .int .i64 k ∧ out = .string ⟨(quoted sql.data.toList ++ paramsT (ps.take k)).toArray⟩ ∧ Below (w.heap.size + 1) (w.alloc (.cells #[.string sql, .slice a n c] 71)) wr) (fun _ i _ _ _ => n - (intOf i).toNat)
  case atStart => exact ⟨0, by omega, rfl, by simp [paramsT], hbx⟩
  case round =>
    obtain ⟨k, hk, rfl, rfl, hb⟩ := hrel
    have q1 : wr.cell? ⟨w.heap.size, 1, none⟩ = some (.slice a n c) := box_cell hb 1
    have hpl := paramsT_len (ps.take k) (fun v hv => HF.out v (List.mem_of_mem_take hv))
    have hpl2 : (ps.take k).length ≤ k := List.length_take_le _ _
    have hpl3 : (paramsT (ps.take k)).length ≤ 13488881664 := by omega
    clear hpl hpl2
    by_cases hlt : k < n
    · have hkv : k < ps.length := by have := HN.out; omega
      obtain ⟨b, o, rfl, c0, c1, c2⟩ := (h.below (box_below hb)).at_ hkv
      have HT : Hid (paramsT (ps.take (k + 1)) = paramsT (ps.take k) ++ (44 :: ps[k].lit)) := by
        apply Lib.hid
        rw [List.take_succ_eq_append_getElem hkv, paramsT_append]; simp [paramsT]
      have HFv := Lib.hid (HF.out ps[k] (List.getElem_mem hkv))
      have hll := lit_len ps[k] HFv.out
      generalize ps[k] = v at c0 c1 c2 HT HFv hll
      have HE2 := Lib.hid (HE.out.below (box_below hb))
      go_wp2_with (go_at_call 73; refine (RPrint_any v HFv.out _ HE2.out).mono ?_; rintro e w4 ⟨rfl, hb4⟩)
      go_roundw
      case rel =>
        refine ⟨k + 1, by omega, by go_num, ?_, hb.trans (hb4.mono (by have := hb.size; simpa using this))⟩
        rw [HT.out, show (ByteArray.mk #[44]) = ByteArray.mk [44].toArray from rfl, cat_str, cat_str]
        simp
      case measure => simp [intOf]; omega
    · have hkn : k = n := by omega
      have HK : Hid (ps.take k = ps) := by
        apply Lib.hid
        rw [hkn, HN.out]; exact List.take_length
      clear hkn
      go_wp2_with fail
      go_ret
      refine ⟨?_, box_below hb⟩
      apply ret_str
      rw [HK.out]
      simp [T.part]

theorem part_len (t : T) (hf : fitVs t.ps) (hm : t.may = true) : t.part.length ≤ 20000 := by
  simp only [T.may, Bool.and_eq_true, decide_eq_true_eq] at hm
  have h1 := paramsT_len t.ps hf
  have h2 := quoted_len t.sql.data.toList
  have h3 := dbl_len t.sql.data.toList
  rw [size_len] at h3
  simp only [T.part, List.length_append, List.length_cons, List.length_nil]
  omega

def fitTs (ts : List T) : Prop := ∀ t ∈ ts, fitVs t.ps
theorem flat_len (ts : List T) (hf : fitTs ts) (hm : ts.all T.may = true) : (flatT ts).length ≤ 20000 * ts.length := by
  induction ts with
  | nil => simp [flatT]
  | cons t r ih =>
    simp only [List.all_cons, Bool.and_eq_true] at hm
    have h1 := part_len t (hf t (by simp)) hm.1
    have h2 := ih (fun x hx => hf x (by simp [hx])) hm.2
    have h3 : flatT (t :: r) = t.part ++ flatT r := by simp [flatT]
    rw [h3, List.length_append, List.length_cons]; omega
theorem text_bad (ts : List T) (k : Nat) (hk : k < ts.length) (h : ts[k].may = false) : textS ts = [] ∧ textE ts = 2 := by
  have : ts.all T.may = false := by
    rw [List.all_eq_false]
    exact ⟨ts[k], List.getElem_mem hk, by simp [h]⟩
  simp [textS, textE, this]
theorem text_ok (ts : List T) (h : ts.all T.may = true) : textS ts = flatT ts ∧ textE ts = 0 := by simp [textS, textE, h]
theorem may_sql {t : T} (h : t.may = true) : t.sql.size ≤ 2000 ∧ t.ps.length ≤ 16 := by
  simp only [T.may, Bool.and_eq_true, decide_eq_true_eq] at h
  exact ⟨h.1.1, h.1.2⟩

set_option maxHeartbeats 1000000 in
theorem rText_any (a : Option Addr) (n c : Nat) (ts : List T) (hn : n = ts.length) (hl : n ≤ 16777216) (hf : fitTs ts) (w : World) (hE : Env w) (h : IsTs w a ts) :
    Calls Tryz.prog 11 #[.slice a n c] w (Ret w (.tuple #[.string ⟨(textS ts).toArray⟩, .int .i64 (textE ts)])) := by
  have HN := Lib.hid hn
  have HE := Lib.hid hE
  have HF := Lib.hid hf
  clear hn hE hf
  go_enter Tryz.func11, Tryz.ntmps11
  go_wp2
  go_loopw [4, 5] (fun out i wr => ∃ k : Nat, k ≤ n ∧ i = .int .i64 k ∧ out = .string ⟨(flatT (ts.take k)).toArray⟩ ∧ (ts.take k).all T.may = true ∧ Below w.heap.size w wr) (fun _ i _ => n - (intOf i).toNat)
  case atStart => exact ⟨0, by omega, rfl, by simp [flatT], by simp, Below.refl _ _⟩
  case round =>
    obtain ⟨k, hk, rfl, rfl, hall, hb⟩ := hrel
    have hpl := flat_len (ts.take k) (fun t ht => HF.out t (List.mem_of_mem_take ht)) hall
    have hpl2 : (ts.take k).length ≤ k := List.length_take_le _ _
    have hpl3 : (flatT (ts.take k)).length ≤ 335544320000 := by omega
    have HA := Lib.hid hall
    clear hpl hpl2 hall
    by_cases hlt : k < n
    · have hkv : k < ts.length := by have := HN.out; omega
      obtain ⟨b, o, rfl, q0, pa, pc, q1, hpc, hvs⟩ := (h.below hb).at_ hkv
      have HT : Hid (flatT (ts.take (k + 1)) = flatT (ts.take k) ++ ts[k].part) := by
        apply Lib.hid
        rw [List.take_succ_eq_append_getElem hkv, flatT_append, flatT_one]
      have HFv := Lib.hid (HF.out ts[k] (List.getElem_mem hkv))
      have HE2 := Lib.hid (HE.out.below hb)
      have HB : Hid (ts[k].may = false → textS ts = [] ∧ textE ts = 2) := Lib.hid (text_bad ts k hkv)
      have HA2 : Hid (ts[k].may = true → (ts.take (k + 1)).all T.may = true) := by
        apply Lib.hid
        intro hm
        rw [List.take_succ_eq_append_getElem hkv, List.all_append, HA.out]; simp [hm]
      generalize ts[k] = t at q0 q1 hpc hvs HT HFv HB HA2
      obtain ⟨sql, ps⟩ := t
      simp only at q0 q1 hpc hvs
      generalize hm : ps.length = m at q1 hpc
      have HM := Lib.hid hm
      clear hm
      have C1 := Lib.hid (rmay_any sql pa m pc ps HM.out.symm wr hvs)
      cases hmay : T.may ⟨sql, ps⟩ with
      | true =>
        have HY := Lib.hid hmay
        have hsz := may_sql hmay
        have hpl4 := part_len ⟨sql, ps⟩ HFv.out hmay
        have C2 : Hid (∀ W, Below wr.heap.size wr W → Calls Tryz.prog 33 #[toldV sql pa m pc] W (Ret W (.string ⟨(T.part ⟨sql, ps⟩).toArray⟩))) :=
          Lib.hid (fun W hb2 => rPart_any sql pa m pc ps HM.out.symm (by have := hsz.1; simp only at this; omega) (by have := hsz.2; have := HM.out; simp only at *; omega) HFv.out W (HE2.out.below hb2) (hvs.below hb2))
        clear hmay hsz hvs
        go_wp2_with (first
          | (go_at_call 32; refine C1.out.mono ?_; rw [HY.out]; rintro e w2 ⟨rfl, hb2⟩; have c2 := bcell hb2; have q0' := (hb2.cell (lt_of_cell q0)).trans q0; have q1' := (hb2.cell (lt_of_cell q1)).trans q1)
          | (go_at_call 33; refine (C2.out _ hb2).mono ?_; rintro e w4 ⟨rfl, hb4⟩))
        go_roundw
        case rel =>
          refine ⟨k + 1, by omega, by go_num, ?_, HA2.out HY.out, (hb.trans (hb2.mono hb.size)).trans (hb4.mono (Nat.le_trans hb.size hb2.size))⟩
          rw [HT.out, cat_str]
        case measure => simp [intOf]; omega
      | false =>
        have HY := Lib.hid hmay
        clear hmay
        go_wp2_with (go_at_call 32; refine C1.out.mono ?_; rw [HY.out]; rintro e w2 ⟨rfl, hb2⟩)
        go_ret2
        refine ⟨?_, hb.trans (hb2.mono hb.size)⟩
        rw [(HB.out HY.out).1, (HB.out HY.out).2]; rfl
    · have hkn : k = n := by omega
      have HK : Hid (ts.take k = ts) := by
        apply Lib.hid
        rw [hkn, HN.out]; exact List.take_length
      clear hkn
      go_wp2_with fail
      go_ret2
      have h1 := HA.out
      rw [HK.out] at h1
      refine ⟨?_, hb⟩
      rw [(text_ok ts h1).1, (text_ok ts h1).2, HK.out]; rfl
end Go.Proofs.YtkkildkleleppaaGreatDoor
namespace Go.Proofs.YtkkildkleleppaaGreatDoor
open Go.RowKit Go.ChangeShapes Go.WideShapes Go.Deep

/-! ### The bound -/
theorem bulk_one {H : Type} (d : DataW H) : 1 ≤ Rows.uptoBulk d := by
  cases d with
  | lit l => cases l <;> simp [Rows.uptoBulk]
  | _ => simp [Rows.uptoBulk]
theorem bulk_mem {H : Type} {d : DataW H} {l : List (DataW H)} (h : d ∈ l) : Rows.uptoBulk d ≤ Rows.uptoBulkAll l := by
  induction l with
  | nil => cases h
  | cons x r ih =>
    simp only [Rows.uptoBulkAll]
    rcases List.mem_cons.1 h with rfl | h
    · omega
    · have := ih h; omega
theorem bulk_len {H : Type} (l : List (DataW H)) : l.length ≤ Rows.uptoBulkAll l := by
  induction l with
  | nil => simp [Rows.uptoBulkAll]
  | cons x r ih => have := bulk_one x; simp only [Rows.uptoBulkAll, List.length_cons]; omega
theorem bulk_all {H : Type} {l : List (DataW H)} (h : Rows.uptoSmall H l = true) : Rows.uptoBulkAll l ≤ 1048576 := of_decide_eq_true h

/-- A list of what there is at each place. -/
theorem list_of {α : Type} (n : Nat) (p : Nat → α → Prop) (h : ∀ i, i < n → ∃ x, p i x) : ∃ l : List α, l.length = n ∧ ∀ i x, l[i]? = some x → p i x := by
  induction n with
  | zero => exact ⟨[], rfl, by simp⟩
  | succ n ih =>
    obtain ⟨l, hl, hp⟩ := ih fun i hi => h i (by omega)
    obtain ⟨x, hx⟩ := h n (by omega)
    refine ⟨l ++ [x], by simp [hl], fun i y hy => ?_⟩
    rcases Nat.lt_or_ge i n with hi | hi
    · rw [List.getElem?_append_left (by omega)] at hy
      exact hp i y hy
    · have hin : i = n := by
        rcases Nat.lt_or_ge n i with h1 | h1
        · rw [List.getElem?_eq_none (by simp; omega)] at hy; cases hy
        · omega
      subst hin
      rw [List.getElem?_append_right (by omega), hl] at hy
      simp at hy
      subst hy
      exact hx

section
variable {H : Type} {enc : TypeId × Value → H} {P : Program} {w : World} {base : Nat} {spare : Nat → Bool} {held : Bool}
theorem open_slice_fields {t e : TypeId} {fs : Array Field} {fuel : Nat} {cs : List Value} {x : DataW H × List MemPlace} (ht : P.underlying t = some (.slice e)) (he : P.underlying e = some (.struct fs))
    (hone : oneCellFields P fs = true) (hC : P.cellsOf e = fs.size) (h : DataW.trod enc P w base spare held fuel t cs = some x) :
    (cs = [.slice none 0 0] ∧ x = (.nil, [])) ∨
    ∃ (a : Addr) (len cap m : Nat) (D : Nat → DataW H) (Pl : Nat → List MemPlace), cs = [.slice (some a) len cap] ∧ base ≤ a.block ∧ len ≤ cap ∧ cap ≤ maxLen ∧ m = (if spare a.block then cap else len) ∧
      x = (.slice ((List.range len).map D) ((List.range (m - len)).map fun j => D (len + j)), MemPlace.row a (m * fs.size) ++ (List.range m).flatMap Pl) ∧
      ∀ i, i < m → ∃ (ys : List (DataW H × List MemPlace)) (n : Nat), D i = .agg (ys.map (·.1)) ∧ Pl i = ys.flatMap (·.2) ∧ ys.length = fs.size ∧
        ∀ (j : Nat) (f : Field), fs[j]? = some f → ∃ (v : Value) (y : DataW H × List MemPlace), w.cell? (a.add (i * fs.size + j)) = some v ∧ ys[j]? = some y ∧ DataW.trod enc P w base spare held n f.type [v] = some y := by
  rcases open_slice ht h with h0 | ⟨a, len, cap, m, n, D, Pl, hcs, hb, hl, hm, hmm, hx, hi⟩
  · exact .inl h0
  · refine .inr ⟨a, len, cap, m, D, Pl, hcs, hb, hl, hm, hmm, by rw [hC] at hx; exact hx, fun i him => ?_⟩
    obtain ⟨cs', hc, ht'⟩ := hi i him
    rw [hC] at hc
    obtain ⟨ys, n', hn', hy, hlen, hyl, hf⟩ := DataW.trod_struct he ht'
    obtain ⟨_, hcl, hat⟩ := World.cells?_some hc
    simp only [Prod.mk.injEq] at hy
    refine ⟨ys, n', hy.1, hy.2, hyl, fun j f hj => ?_⟩
    obtain ⟨ho, hk⟩ := hone_of hone j f hj
    have hjl : j < fs.size := (Array.getElem?_eq_some_iff.1 hj).1
    have hcell := hat j hjl
    have hv : cs'[j]? = some (cs'[j]'(by omega)) := List.getElem?_eq_getElem (by omega)
    have h1 := hf j f hj
    rw [ho, hk] at h1
    have hone' : (cs'.drop j).take 1 = [cs'[j]'(by omega)] := by
      rw [List.drop_eq_getElem_cons (by omega)]
      rfl
    rw [hone'] at h1
    have hys : ys[j]? = some (ys[j]'(by omega)) := List.getElem?_eq_getElem (by omega)
    refine ⟨_, _, ?_, hys, h1.trans hys⟩
    rw [← Go.Deep.add_add, hcell, hv]
end

section
variable {H : Type} {enc : TypeId × Value → H} {w : World} {base : Nat} {held : Bool}
theorem lone_addr {a : Addr} {v : Value} (h : w.cell? (a.add 0) = some v) : ∃ b o, a = ⟨b, o, none⟩ := by
  obtain ⟨b, o, spot⟩ := a
  have : spot = none := by simpa [Addr.add] using World.cell?_spot h
  subst this
  exact ⟨b, o, rfl⟩
/-- A slice of values, out of its reading. -/
theorem open_values {fuel : Nat} {cs : List Value} {x : DataW H × List MemPlace} (h : DataW.trod enc Tryz.prog w base (fun _ => true) held fuel 40 cs = some x) :
    ∃ (a : Option Addr) (n c : Nat) (vs : List V), cs = [.slice a n c] ∧ n = vs.length ∧ n ≤ c ∧ IsVs w a vs ∧ fitVs vs ∧ n ≤ Rows.uptoBulk x.1 := by
  rcases open_slice_fields (P := Tryz.prog) Tryz.underlying40 Tryz.underlying80 (by kernel_rfl) (by kernel_rfl) h with ⟨rfl, rfl⟩ | ⟨a, len, cap, m, D, Pl, rfl, hb, hl, hm, hmm, rfl, hi⟩
  · exact ⟨none, 0, 0, [], rfl, rfl, Nat.le_refl _, IsVs.nil_ _ _, (by intro v hv; cases hv), by simp [Rows.uptoBulk]⟩
  · simp only [if_true] at hmm
    subst hmm
    have hex : ∀ i, i < len → ∃ v : V, (w.cell? (a.add (i * 3)) = some (.int .i64 v.k) ∧ w.cell? (a.add (i * 3 + 1)) = some (.int .i64 v.n) ∧ w.cell? (a.add (i * 3 + 2)) = some (.string v.s)) ∧ v.fit := by
      intro i hil
      obtain ⟨ys, n, -, -, -, hf⟩ := hi i (by omega)
      obtain ⟨v0, y0, c0, -, t0⟩ := hf 0 _ rfl
      obtain ⟨v1, y1, c1, -, t1⟩ := hf 1 _ rfl
      obtain ⟨v2, y2, c2, -, t2⟩ := hf 2 _ rfl
      obtain ⟨k, e0, -, -⟩ := DataW.trod_int (P := Tryz.prog) Tryz.underlying78 t0
      obtain ⟨n, e1, -, w1⟩ := DataW.trod_int (P := Tryz.prog) Tryz.underlying2 t1
      obtain ⟨s, e2, -, -⟩ := DataW.trod_string (P := Tryz.prog) Tryz.underlying9 t2
      injection e0 with e0
      injection e1 with e1
      injection e2 with e2
      subst e0 e1 e2
      refine ⟨⟨k, n, s⟩, ⟨c0, c1, c2⟩, ?_⟩
      have := bounds_i64 w1
      exact ⟨by simp only; omega, by simp only; omega⟩
    obtain ⟨vs, hvl, hvs⟩ := list_of len _ hex
    refine ⟨some a, len, m, vs, rfl, hvl.symm, hl, ?_, fun v hv => ?_, ?_⟩
    · rcases Nat.eq_zero_or_pos len with h0 | h0
      · exact .inl (List.eq_nil_of_length_eq_zero (by omega))
      · have hp : 0 < vs.length := by omega
        obtain ⟨⟨c0, -, -⟩, -⟩ := hvs 0 _ (List.getElem?_eq_getElem hp)
        obtain ⟨b, o, rfl⟩ := lone_addr (by simpa using c0)
        refine .inr ⟨b, o, rfl, fun i v hi => ?_⟩
        obtain ⟨⟨c0, c1, c2⟩, -⟩ := hvs i v hi
        rw [add_plain] at c0 c1 c2
        exact ⟨c0, by rw [Nat.add_assoc]; exact c1, by rw [Nat.add_assoc]; exact c2⟩
    · obtain ⟨i, hi, rfl⟩ := List.getElem_of_mem hv
      exact (hvs i _ (List.getElem?_eq_getElem hi)).2
    · have := bulk_len ((List.range len).map D)
      simp only [List.length_map, List.length_range] at this
      simp only [Rows.uptoBulk]
      omega
/-- A slice of things told, out of its reading. -/
theorem open_told {fuel : Nat} {cs : List Value} {x : DataW H × List MemPlace} (h : DataW.trod enc Tryz.prog w base (fun _ => true) held fuel 22 cs = some x) :
    ∃ (a : Option Addr) (n c : Nat) (ts : List T), cs = [.slice a n c] ∧ n = ts.length ∧ n ≤ c ∧ IsTs w a ts ∧ fitTs ts ∧ n ≤ Rows.uptoBulk x.1 ∧ ∀ t ∈ ts, t.ps.length ≤ Rows.uptoBulk x.1 := by
  rcases open_slice_fields (P := Tryz.prog) Tryz.underlying22 Tryz.underlying71 (by kernel_rfl) (by kernel_rfl) h with ⟨rfl, rfl⟩ | ⟨a, len, cap, m, D, Pl, rfl, hb, hl, hm, hmm, rfl, hi⟩
  · exact ⟨none, 0, 0, [], rfl, rfl, Nat.le_refl _, .inl rfl, (by intro v hv; cases hv), by simp [Rows.uptoBulk], (by intro v hv; cases hv)⟩
  · simp only [if_true] at hmm
    subst hmm
    have hex : ∀ i, i < len → ∃ t : T, (w.cell? (a.add (i * 2)) = some (.string t.sql) ∧ ∃ pa pc, w.cell? (a.add (i * 2 + 1)) = some (.slice pa t.ps.length pc) ∧ t.ps.length ≤ pc ∧ IsVs w pa t.ps) ∧ fitVs t.ps ∧ t.ps.length ≤ Rows.uptoBulk (.slice ((List.range len).map D) ((List.range (m - len)).map fun j => D (len + j))) := by
      intro i hil
      obtain ⟨ys, n, hD, -, hyl, hf⟩ := hi i (by omega)
      obtain ⟨v0, y0, c0, -, t0⟩ := hf 0 _ rfl
      obtain ⟨v1, y1, c1, hy1, t1⟩ := hf 1 _ rfl
      obtain ⟨s, e0, -, -⟩ := DataW.trod_string (P := Tryz.prog) Tryz.underlying9 t0
      obtain ⟨pa, pn, pc, vs, e1, hn, hc, hvs, hfit, hbk⟩ := open_values t1
      injection e0 with e0
      injection e1 with e1
      subst e0 e1 hn
      refine ⟨⟨s, vs⟩, ⟨c0, pa, pc, c1, hc, hvs⟩, hfit, ?_⟩
      have h1 : Rows.uptoBulk y1.1 ≤ Rows.uptoBulk (D i) := by
        rw [hD]
        have := bulk_mem (d := y1.1) (l := ys.map (·.1)) (List.mem_map.2 ⟨y1, List.mem_of_getElem? hy1, rfl⟩)
        simp only [Rows.uptoBulk]; omega
      have h2 : Rows.uptoBulk (D i) ≤ Rows.uptoBulkAll ((List.range len).map D) := bulk_mem (List.mem_map.2 ⟨i, List.mem_range.2 hil, rfl⟩)
      simp only [Rows.uptoBulk]
      omega
    obtain ⟨ts, htl, hts⟩ := list_of len _ hex
    refine ⟨some a, len, m, ts, rfl, htl.symm, hl, ?_, fun t ht => ?_, ?_, fun t ht => ?_⟩
    · rcases Nat.eq_zero_or_pos len with h0 | h0
      · exact .inl (List.eq_nil_of_length_eq_zero (by omega))
      · have hp : 0 < ts.length := by omega
        obtain ⟨⟨c0, -⟩, -⟩ := hts 0 _ (List.getElem?_eq_getElem hp)
        obtain ⟨b, o, rfl⟩ := lone_addr (by simpa using c0)
        refine .inr ⟨b, o, rfl, fun i t hi => ?_⟩
        obtain ⟨⟨c0, pa, pc, c1, hpc, hvs⟩, -⟩ := hts i t hi
        rw [add_plain] at c0 c1
        exact ⟨c0, pa, pc, by rw [Nat.add_assoc]; exact c1, hpc, hvs⟩
    · obtain ⟨i, hi, rfl⟩ := List.getElem_of_mem ht
      exact (hts i _ (List.getElem?_eq_getElem hi)).2.1
    · have := bulk_len ((List.range len).map D)
      simp only [List.length_map, List.length_range] at this
      simp only [Rows.uptoBulk]
      omega
    · obtain ⟨i, hi, rfl⟩ := List.getElem_of_mem ht
      exact (hts i _ (List.getElem?_eq_getElem hi)).2.2
end
end Go.Proofs.YtkkildkleleppaaGreatDoor
