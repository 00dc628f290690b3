/- strings.ReplaceAll, one byte at a time: plain laws. -/
import Derived.Test.YtkkildkleleppaaDoorSpec
import Derived.Lib.Replace
namespace Go.Proofs.YtkkildkleleppaaDoor
open Go.Lib

theorem index_cons_hit (old : List UInt8) (c : UInt8) (l : List UInt8) (h : old.isPrefixOf (c :: l) = true) : index (c :: l) old = 0 := by simp [index, h]
theorem index_cons_none (old : List UInt8) (c : UInt8) (l : List UInt8) (h : old.isPrefixOf (c :: l) = false) (hi : index l old = -1) : index (c :: l) old = -1 := by simp [index, h, hi]
theorem index_cons_some (old : List UInt8) (c : UInt8) (l : List UInt8) (i : Nat) (h : old.isPrefixOf (c :: l) = false) (hi : index l old = i) : index (c :: l) old = ((i + 1 : Nat) : Int) := by
  have hm : ¬ ((i : Int) == -1) = true := fun e => by have := beq_iff_eq.1 e; omega
  simp only [index, h, hi]
  simp only [Bool.false_eq_true, if_false, if_neg hm]
  omega

/-- All instances replaced, as the library's text does it. -/
def repl (old new s : List UInt8) : List UInt8 := replaceK old new (count s old) s

theorem repl_nil (old new : List UInt8) (h : old ≠ []) : repl old new [] = [] := by
  have hi : index [] old = -1 := by
    cases old with
    | nil => exact absurd rfl h
    | cons _ _ => rfl
  simp [repl, count_miss hi, replaceK]

theorem repl_hit (old new : List UInt8) (c : UInt8) (l : List UInt8) (h0 : old ≠ []) (h : old.isPrefixOf (c :: l) = true) : repl old new (c :: l) = new ++ repl old new ((c :: l).drop old.length) := by
  have hi := index_cons_hit old c l h
  have hc := count_hit (i := 0) h0 hi
  unfold repl
  rw [hc, Nat.add_comm, replaceK_hit old new _ _ 0 hi]
  simp

theorem repl_miss (old new : List UInt8) (c : UInt8) (l : List UInt8) (h0 : old ≠ []) (h : old.isPrefixOf (c :: l) = false) : repl old new (c :: l) = c :: repl old new l := by
  by_cases hn : index l old = -1
  · unfold repl
    rw [count_miss (index_cons_none old c l h hn), count_miss hn]
    rfl
  · have hge := index_ge l old
    obtain ⟨i, hi⟩ : ∃ i : Nat, index l old = i := ⟨(index l old).toNat, by omega⟩
    have hi2 := index_cons_some old c l i h hi
    have hc := count_hit h0 hi
    have hc2 := count_hit h0 hi2
    have hd : (c :: l).drop (i + 1 + old.length) = l.drop (i + old.length) := by
      rw [show i + 1 + old.length = (i + old.length) + 1 by omega]; rfl
    rw [hd] at hc2
    unfold repl
    rw [hc, hc2, Nat.add_comm, replaceK_hit old new _ _ _ hi2, replaceK_hit old new _ _ _ hi, hd]
    simp

theorem replaceAll_repl (s old new : List UInt8) (h : old ≠ new) : replaceAll s old new = repl old new s := by
  have hb : (old == new) = false := beq_eq_false_iff_ne.2 h
  simp [replaceAll, replace, hb, replaceNum, repl]

/-- Each quote twice. -/
theorem repl_dbl (s : List UInt8) : replaceAll s [39] [39, 39] = dbl s := by
  rw [replaceAll_repl _ _ _ (by decide)]
  induction s with
  | nil => exact repl_nil _ _ (by decide)
  | cons c l ih =>
    by_cases hc : c = 39
    · subst hc
      rw [repl_hit _ _ _ _ (by decide) (by simp)]
      simp only [List.length_cons, List.length_nil, Nat.zero_add, List.drop_succ_cons, List.drop_zero, ih]
      simp [dbl, dblOne]
    · have hp : List.isPrefixOf [39] (c :: l) = false := by
        rw [Bool.eq_false_iff]
        intro hh
        simp at hh
        exact hc hh.symm
      rw [repl_miss _ _ _ _ (by decide) hp, ih]
      simp [dbl, dblOne, hc]

/-- Two quotes are one, from the left. -/
def undbl : List UInt8 → List UInt8
  | [] => []
  | [c] => [c]
  | c :: d :: l => if c = 39 ∧ d = 39 then 39 :: undbl l else c :: undbl (d :: l)

theorem repl_undbl : ∀ (n : Nat) (s : List UInt8), s.length ≤ n → repl [39, 39] [39] s = undbl s
  | 0, s, h => by
    have : s = [] := List.eq_nil_of_length_eq_zero (by omega)
    subst this
    exact repl_nil _ _ (by decide)
  | n + 1, [], _ => repl_nil _ _ (by decide)
  | n + 1, [c], _ => by
    have hp : List.isPrefixOf [39, 39] [c] = false := by simp [List.isPrefixOf]
    rw [repl_miss _ _ _ _ (by decide) hp, repl_nil _ _ (by decide)]
    rfl
  | n + 1, c :: d :: l, h => by
    simp only [List.length_cons] at h
    by_cases hc : c = 39 ∧ d = 39
    · obtain ⟨rfl, rfl⟩ := hc
      rw [repl_hit _ _ _ _ (by decide) (by simp)]
      simp only [List.length_cons, List.length_nil, Nat.zero_add, List.drop_succ_cons, List.drop_zero]
      rw [repl_undbl n l (by omega)]
      simp [undbl]
    · have hp : List.isPrefixOf [39, 39] (c :: d :: l) = false := by
        rw [Bool.eq_false_iff]
        intro hh
        simp at hh
        exact hc ⟨hh.1.symm, hh.2.symm⟩
      rw [repl_miss _ _ _ _ (by decide) hp, repl_undbl n (d :: l) (by simp; omega)]
      simp [undbl, hc]

theorem replaceAll_undbl (s : List UInt8) : replaceAll s [39, 39] [39] = undbl s := by
  rw [replaceAll_repl _ _ _ (by decide)]
  exact repl_undbl s.length s (Nat.le_refl _)

end Go.Proofs.YtkkildkleleppaaDoor
