/- The plain part: what the reader of dumps reads at a place. -/
import Derived.Test.YtkkildkleleppaaDoorVl
namespace Go.Proofs.YtkkildkleleppaaDoor

def qtd (l : List UInt8) (k : Nat) : Option (List UInt8 × Nat) := if nx l k 39 then (qBody (l.drop (k + 1))).map (fun x => (x.1, k + 1 + x.2)) else none
theorem quotedS_qtd (l : List UInt8) (k : Nat) : quotedS l k = (qtd l k).map fun x => (.string ⟨x.1.toArray⟩, x.2) := by
  unfold quotedS qtd
  split
  · cases qBody (l.drop (k + 1)) <;> rfl
  · rfl
def paramsS : Nat → List UInt8 → Nat → Option (List V × Nat)
  | 0, _, _ => none
  | n + 1, l, k => if nx l k 44 then (match valueV l (k + 1) with | none => none | some x => (paramsS n l x.2).map fun y => (x.1 :: y.1, y.2)) else some ([], k)
def partS (l : List UInt8) (k : Nat) : Option (T × Nat) :=
  match qtd l k with
  | none => none
  | some x => match paramsS (l.length + 1) l x.2 with
    | none => none
    | some y => if nx l y.2 10 = true ∧ (T.mk ⟨x.1.toArray⟩ y.1).may = true then some (⟨⟨x.1.toArray⟩, y.1⟩, y.2 + 1) else none

theorem paramsS_end {n : Nat} {l : List UInt8} {k : Nat} (h : nx l k 44 = false) : paramsS (n + 1) l k = some ([], k) := by simp [paramsS, h]
theorem paramsS_none {n : Nat} {l : List UInt8} {k : Nat} (h : nx l k 44 = true) (h2 : valueV l (k + 1) = none) : paramsS (n + 1) l k = none := by simp [paramsS, h, h2]
theorem paramsS_some {n : Nat} {l : List UInt8} {k j : Nat} {v : V} (h : nx l k 44 = true) (h2 : valueV l (k + 1) = some (v, j)) : paramsS (n + 1) l k = (paramsS n l j).map fun y => (v :: y.1, y.2) := by simp [paramsS, h, h2]

theorem litEnd_le {l : List UInt8} {k j : Nat} (hk : k ≤ l.length) (h : litEnd l k = some j) : k ≤ j ∧ j ≤ l.length := by
  unfold litEnd at h
  split at h
  · cases hq : quotedS l k with
    | none => rw [hq] at h; cases h
    | some y =>
      rw [hq] at h
      cases h
      exact quotedS_le (v := y.1) (by rw [hq])
  · cases h
    have : stopL (l.drop k) ≤ (l.drop k).length := by unfold stopL; exact (List.takeWhile_sublist _).length_le
    rw [List.length_drop] at this
    omega
theorem valueV_le {l : List UInt8} {k j : Nat} {v : V} (hk : k ≤ l.length) (h : valueV l k = some (v, j)) : k ≤ j ∧ j ≤ l.length := by
  unfold valueV at h
  have hx : k ≤ headX l k ∧ headX l k ≤ l.length := by
    unfold headX
    split
    · rename_i hn
      have : k < l.length := by
        unfold nx at hn
        rcases Nat.lt_or_ge k l.length with h1 | h1
        · exact h1
        · rw [List.getElem?_eq_none h1] at hn; cases hn
      omega
    · omega
  split at h
  · cases h
  · rename_i k2 hl
    have := litEnd_le hx.2 hl
    cases hr : readV (pieceL l k k2) with
    | none => rw [hr] at h; cases h
    | some u => rw [hr] at h; cases h; omega

theorem qtd_le {l : List UInt8} {k j : Nat} {x : List UInt8} (h : qtd l k = some (x, j)) : k ≤ j ∧ j ≤ l.length :=
  quotedS_le (v := .string ⟨x.toArray⟩) (by rw [quotedS_qtd, h]; rfl)
end Go.Proofs.YtkkildkleleppaaDoor
