/- Plain functions on bytes: literals of values and of things told. No program in sight. -/
import Derived.Test.YtkkildkleleppaaDoorMem
import Derived.Lib.ItoaNum
namespace Go.Proofs.YtkkildkleleppaaDoor

/-- May a value be? -/
def mayB (k n : Int) (s : List UInt8) : Bool :=
  if k = 0 then decide (n = 0) && s.isEmpty
  else if k = 1 then s.isEmpty
  else if k = 2 ∨ k = 3 then decide (n = 0) && decide (s.length ≤ 400)
  else false
def V.may (v : V) : Bool := mayB v.k v.n v.s.data.toList
/-- The value's number is one of 64 bits. -/
def V.fit (v : V) : Prop := -9223372036854775808 ≤ v.n ∧ v.n ≤ 9223372036854775807

theorem size_len (s : ByteArray) : s.data.toList.length = s.size := rfl

def dblOne (c : UInt8) : List UInt8 := if c = 39 then [39, 39] else [c]
/-- Each quote twice. -/
def dbl (l : List UInt8) : List UInt8 := l.flatMap dblOne
def hexd (n : Nat) : UInt8 := UInt8.ofNat (if n < 10 then 48 + n else 87 + n)
theorem hexStr_get (i : Nat) (h : i < 16) (h' : i < (ByteArray.mk #[48, 49, 50, 51, 52, 53, 54, 55, 56, 57, 97, 98, 99, 100, 101, 102]).size) :
    (ByteArray.mk #[48, 49, 50, 51, 52, 53, 54, 55, 56, 57, 97, 98, 99, 100, 101, 102])[i]'h' = hexd i := by
  have key : ∀ j : Fin 16, (ByteArray.mk #[48, 49, 50, 51, 52, 53, 54, 55, 56, 57, 97, 98, 99, 100, 101, 102])[j.val]'(j.isLt) = hexd j.val := by decide
  exact key ⟨i, h⟩
def hexOne (c : UInt8) : List UInt8 := [hexd (c.toNat / 16), hexd (c.toNat % 16)]
/-- The bytes' digits to the base 16. -/
def hexs (l : List UInt8) : List UInt8 := l.flatMap hexOne

def quoted (l : List UInt8) : List UInt8 := 39 :: (dbl l ++ [39])
def blobbed (l : List UInt8) : List UInt8 := 120 :: 39 :: (hexs l ++ [39])

/-- A value's literal; empty, if it may not be. -/
def V.lit (v : V) : List UInt8 :=
  if v.may then
    if v.k = 0 then [78, 85, 76, 76] else if v.k = 1 then Lib.itoa v.n else if v.k = 2 then quoted v.s.data.toList else blobbed v.s.data.toList
  else []
def V.litE (v : V) : Int := if v.may then 0 else 2

/-- Is there a value that may not be? -/
def badV (vs : List V) : Bool := vs.any (fun v => !v.may)
def checkV (vs : List V) : Int := if badV vs then 2 else if 16 < vs.length then 3 else 0
theorem badV_of {vs : List V} {k : Nat} (hk : k < vs.length) (h : vs[k].may = false) : badV vs = true := by
  simp only [badV, List.any_eq_true]
  exact ⟨vs[k], List.getElem_mem hk, by simp [h]⟩
theorem badV_no {vs : List V} (h : vs.all V.may = true) : badV vs = false := by simpa [badV] using h
theorem checkV_bad (vs : List V) (k : Nat) (hk : k < vs.length) (h : vs[k].may = false) : checkV vs = 2 := by simp [checkV, badV_of hk h]
theorem checkV_long (vs : List V) (h : badV vs = false) (hl : 16 < vs.length) : checkV vs = 3 := by simp [checkV, h, hl]
theorem checkV_ok (vs : List V) (h : badV vs = false) (hl : ¬ 16 < vs.length) : checkV vs = 0 := by simp [checkV, h, hl]

/-- May what is told be? -/
def T.may (t : T) : Bool := decide (t.sql.size ≤ 2000) && decide (t.ps.length ≤ 16) && !badV t.ps
/-- The text of what is told. -/
def paramsT (ps : List V) : List UInt8 := ps.flatMap fun v => 44 :: v.lit
def T.part (t : T) : List UInt8 := quoted t.sql.data.toList ++ paramsT t.ps ++ [10]
def flatT (ts : List T) : List UInt8 := ts.flatMap T.part
theorem flatT_append (a b : List T) : flatT (a ++ b) = flatT a ++ flatT b := by simp [flatT]
theorem flatT_one (t : T) : flatT [t] = t.part := by simp [flatT]
def textS (ts : List T) : List UInt8 := if ts.all T.may then flatT ts else []
def textE (ts : List T) : Int := if ts.all T.may then 0 else 2

theorem dbl_nil : dbl [] = [] := rfl
theorem dbl_append (a b : List UInt8) : dbl (a ++ b) = dbl a ++ dbl b := by simp [dbl]
theorem hexs_append (a b : List UInt8) : hexs (a ++ b) = hexs a ++ hexs b := by simp [hexs]
theorem take_snoc (s : ByteArray) (k : Nat) (h : k < s.size) : s.data.toList.take (k + 1) = s.data.toList.take k ++ [s[k]] := by
  rw [List.take_succ_eq_append_getElem (by simpa using h)]; rfl
theorem dbl_len (l : List UInt8) : (dbl l).length ≤ 2 * l.length := by
  induction l with
  | nil => simp [dbl]
  | cons c r ih =>
    have : dbl (c :: r) = dblOne c ++ dbl r := by simp [dbl]
    rw [this, List.length_append, List.length_cons]
    have : (dblOne c).length ≤ 2 := by unfold dblOne; split <;> simp
    omega
theorem hexs_len (l : List UInt8) : (hexs l).length = 2 * l.length := by
  induction l with
  | nil => simp [hexs]
  | cons c r ih =>
    have : hexs (c :: r) = hexOne c ++ hexs r := by simp [hexs]
    rw [this, List.length_append, List.length_cons, ih]
    simp [hexOne]; omega
theorem dbl_take (s : ByteArray) (k : Nat) (h : k < s.size) : dbl (s.data.toList.take (k + 1)) = dbl (s.data.toList.take k) ++ dblOne s[k] := by
  rw [take_snoc s k h, dbl_append]; simp [dbl]
theorem hexs_take (s : ByteArray) (k : Nat) (h : k < s.size) : hexs (s.data.toList.take (k + 1)) = hexs (s.data.toList.take k) ++ hexOne s[k] := by
  rw [take_snoc s k h, hexs_append]; simp [hexs]
theorem take_len (s : ByteArray) (k : Nat) : (s.data.toList.take k).length ≤ k := List.length_take_le _ _
theorem take_all (s : ByteArray) : s.data.toList.take s.size = s.data.toList := List.take_of_length_le (Nat.le_refl _)

end Go.Proofs.YtkkildkleleppaaDoor
