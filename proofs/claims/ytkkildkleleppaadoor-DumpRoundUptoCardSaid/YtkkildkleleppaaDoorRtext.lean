/- The reference's text of things told. -/
import Derived.Test.YtkkildkleleppaaDoorRtok
import Derived.Lib.ItoaLen
namespace Go.Proofs.YtkkildkleleppaaDoor
open Go.RowKit

def fitVs (vs : List V) : Prop := ∀ v ∈ vs, v.fit
theorem paramsT_append (a b : List V) : paramsT (a ++ b) = paramsT a ++ paramsT b := by simp [paramsT]
theorem itoa_len (n : Int) (h : -9223372036854775808 ≤ n ∧ n ≤ 9223372036854775807) : (Lib.itoa n).length ≤ 21 := by
  unfold Lib.itoa
  split
  · rw [List.length_cons, Lib.decDigits_length]
    have := Lib.nDigits_le20 n.natAbs (by omega)
    omega
  · rw [Lib.decDigits_length]
    have := Lib.nDigits_le20 n.toNat (by omega)
    omega
theorem lit_len (v : V) (hf : v.fit) : v.lit.length ≤ 803 := by
  unfold V.lit
  by_cases hm : v.may = true
  · rw [if_pos hm]
    rcases may_cases v hm with h | h | ⟨h, _, h3⟩ | ⟨h, _, h3⟩
    · simp [h]
    · have := itoa_len v.n hf; simp [h]; omega
    · have := dbl_len v.s.data.toList; rw [size_len] at this; simp [h, quoted]; omega
    · have := hexs_len v.s.data.toList; rw [size_len] at this; simp [h, blobbed]; omega
  · rw [if_neg hm]; simp
theorem paramsT_len (vs : List V) (hf : fitVs vs) : (paramsT vs).length ≤ 804 * vs.length := by
  induction vs with
  | nil => simp [paramsT]
  | cons v r ih =>
    have h1 := lit_len v (hf v (by simp))
    have h2 := ih (fun x hx => hf x (by simp [hx]))
    have : paramsT (v :: r) = 44 :: v.lit ++ paramsT r := by simp [paramsT]
    rw [this]; simp; omega

theorem part_len (t : T) (hf : fitVs t.ps) (hm : t.may = true) : t.part.length ≤ 20000 := by
  simp only [T.may, Bool.and_eq_true, decide_eq_true_eq] at hm
  have h1 := paramsT_len t.ps hf
  have h2 := quoted_len t.sql.data.toList
  have h3 := dbl_len t.sql.data.toList
  rw [size_len] at h3
  simp only [T.part, List.length_append, List.length_cons, List.length_nil]
  omega

def fitTs (ts : List T) : Prop := ∀ t ∈ ts, fitVs t.ps
theorem flat_len (ts : List T) (hf : fitTs ts) (hm : ts.all T.may = true) : (flatT ts).length ≤ 20000 * ts.length := by
  induction ts with
  | nil => simp [flatT]
  | cons t r ih =>
    simp only [List.all_cons, Bool.and_eq_true] at hm
    have h1 := part_len t (hf t (by simp)) hm.1
    have h2 := ih (fun x hx => hf x (by simp [hx])) hm.2
    have h3 : flatT (t :: r) = t.part ++ flatT r := by simp [flatT]
    rw [h3, List.length_append, List.length_cons]; omega
theorem text_bad (ts : List T) (k : Nat) (hk : k < ts.length) (h : ts[k].may = false) : textS ts = [] ∧ textE ts = 2 := by
  have : ts.all T.may = false := by
    rw [List.all_eq_false]
    exact ⟨ts[k], List.getElem_mem hk, by simp [h]⟩
  simp [textS, textE, this]
theorem text_ok (ts : List T) (h : ts.all T.may = true) : textS ts = flatT ts ∧ textE ts = 0 := by simp [textS, textE, h]
theorem may_sql {t : T} (h : t.may = true) : t.sql.size ≤ 2000 ∧ t.ps.length ≤ 16 := by
  simp only [T.may, Bool.and_eq_true, decide_eq_true_eq] at h
  exact ⟨h.1.1, h.1.2⟩

end Go.Proofs.YtkkildkleleppaaDoor
