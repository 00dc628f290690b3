/- Plain: the document's reader of dumps, as functions on bytes. No program in sight. -/
import Derived.Test.YtkkildkleleppaaDoorSpec
namespace Go.Proofs.YtkkildkleleppaaDoor

/-- The text between the signs at the ends. -/
def innerL (l : List UInt8) (a : Nat) : List UInt8 := (l.take (l.length - 1)).drop a
def pieceL (l : List UInt8) (i k : Nat) : List UInt8 := (l.take k).drop i
theorem extract_list (s : ByteArray) (a b : Nat) : (s.extract a b).data.toList = (s.data.toList.take b).drop a := by
  simp [ByteArray.extract, ByteArray.copySlice, List.drop_take]
theorem idx0 (s : ByteArray) (h : 0 < s.size) : s.data.toList[0]? = some s[0] := by
  rw [List.getElem?_eq_getElem (by simpa using h)]; rfl
theorem u8_beq (c d : UInt8) : (((c.toNat : Int) == (d.toNat : Int)) = (c == d)) := by
  rw [Bool.eq_iff_iff]
  simp only [beq_iff_eq, Int.ofNat_inj]
  exact UInt8.toNat_inj
theorem u8_eq {c d : UInt8} (h : c = d) : ((c.toNat : Int) == (d.toNat : Int)) = true := by rw [u8_beq]; simp [h]
theorem u8_ne {c d : UInt8} (h : ¬ c = d) : ((c.toNat : Int) == (d.toNat : Int)) = false := by rw [u8_beq]; simp [h]
theorem drop_one (s : ByteArray) (k : Nat) (h : k < s.size) : s.data.toList.drop k = s[k] :: s.data.toList.drop (k + 1) := by
  rw [List.drop_eq_getElem_cons (by simpa using h)]; rfl

def tog (q : Bool) (c : UInt8) : Bool := if c = 39 then !q else q
/-- The places behind the line's ends that stand not within quotes; i: the place of the first byte. -/
def endsL : Bool → Nat → List UInt8 → List Nat
  | _, _, [] => []
  | q, i, c :: r => if c = 10 ∧ tog q c = false then (i + 1) :: endsL (tog q c) (i + 1) r else endsL (tog q c) (i + 1) r
/-- The pieces between the commas that stand not within quotes; the last byte is left out. -/
def cutsL : Bool → List UInt8 → List UInt8 → List (List UInt8)
  | _, _, [] => []
  | q, acc, c :: r => if tog q c = false ∧ (c = 44 ∨ r = []) then acc :: cutsL (tog q c) [] r else cutsL (tog q c) (acc ++ [c]) r

/-! ### The document's literals -/
def stepN (neg : Bool) (n : Int) (c : UInt8) : Option Int :=
  if c.toNat < 48 ∨ 57 < c.toNat then none
  else if neg = true ∧ n < Int.tdiv (-9223372036854775808 + ((c.toNat : Int) - 48)) 10 ∨ neg = false ∧ Int.tdiv (9223372036854775807 - ((c.toNat : Int) - 48)) 10 < n then none
  else some (if neg then n * 10 - ((c.toNat : Int) - 48) else n * 10 + ((c.toNat : Int) - 48))
def numGo (neg : Bool) : Int → List UInt8 → Option Int
  | n, [] => some n
  | n, c :: r => match stepN neg n c with | none => none | some m => numGo neg m r
def negL (l : List UInt8) : Bool := l[0]? == some 45
def numAt (l : List UInt8) : Nat := if negL l then 1 else 0
/-- The integer of a text as it is written. -/
def rnum (l : List UInt8) : Option Int :=
  if numAt l = l.length ∨ (l[numAt l]? = some 48 ∧ 1 < l.length) then none else numGo (negL l) 0 (l.drop (numAt l))
/-- The bytes between quotes of a text's literal. -/
def rtextL : List UInt8 → Option (List UInt8)
  | [] => some []
  | [c] => if c = 39 then none else some [c]
  | c :: d :: r => if c = 39 then (if d = 39 then (rtextL r).map (39 :: ·) else none) else (rtextL (d :: r)).map (c :: ·)
def rblobB (l : List UInt8) : Bool := l[0]? == some 120
def rfrom (l : List UInt8) : Nat := if rblobB l then 1 else 0
def rkind (l : List UInt8) : Int := if rblobB l then 3 else 2
/-- What a digit to the base 16 is worth. -/
def nib (c : UInt8) : Int := if 48 ≤ c.toNat ∧ c.toNat ≤ 57 then (c.toNat : Int) - 48 else if 97 ≤ c.toNat ∧ c.toNat ≤ 102 then (c.toNat : Int) - 87 else -1
/-- A blob's bytes. -/
def rhexL : List UInt8 → Option (List UInt8)
  | [] => some []
  | [_] => none
  | a :: b :: r => if nib a < 0 ∨ nib b < 0 then none else (rhexL r).map (UInt8.ofNat ((nib a).toNat * 16 + (nib b).toNat) :: ·)
def rbytes (b : Bool) (l : List UInt8) : Option (List UInt8) := if b then rhexL l else rtextL l
def rquo (l : List UInt8) : Option (List UInt8) :=
  if l.length < rfrom l + 2 ∨ l[rfrom l]? ≠ some 39 ∨ l[l.length - 1]? ≠ some 39 then none else rbytes (rblobB l) (innerL l (rfrom l + 1))
/-- The document's value of a literal. -/
def rread (l : List UInt8) : Option V :=
  if 1000 < l.length then none
  else if l = [78, 85, 76, 76] then some ⟨0, 0, ByteArray.empty⟩
  else match rnum l with
    | some n => some ⟨1, n, ByteArray.empty⟩
    | none => match rquo l with
      | none => none
      | some b => if b.length ≤ 400 then some ⟨rkind l, 0, ⟨b.toArray⟩⟩ else none

def readAll : List (List UInt8) → Option (List V)
  | [] => some []
  | l :: ls => match rread l with | none => none | some v => (readAll ls).map (v :: ·)
/-- The text of a piece in quotes. -/
def sqlS (h : List UInt8) : Option (List UInt8) := if h.length < 2 ∨ h[0]? ≠ some 39 ∨ h[h.length - 1]? ≠ some 39 then none else rtextL (innerL h 1)
/-- What the pieces of a part tell. -/
def toldS : List (List UInt8) → Option T
  | [] => none
  | h :: ls => match sqlS h with | none => none | some x => match readAll ls with | none => none | some ps => some ⟨⟨x.toArray⟩, ps⟩
/-- The document's part. -/
def oneS (p : List UInt8) : Option T := match toldS (cutsL false [] p) with | none => none | some t => if t.may = true ∧ t.part = p then some t else none

/-- The document's reader over the ends. -/
def refRun (l : List UInt8) : List Nat → Nat → Except Nat (List T)
  | [], k => if k < l.length then .error k else .ok []
  | e :: es, k => match oneS (pieceL l k e) with
    | none => .error k
    | some t => match refRun l es e with | .error x => .error x | .ok ts => .ok (t :: ts)
end Go.Proofs.YtkkildkleleppaaDoor
