/- Plain: the document's reader of dumps, as functions on bytes. No program in sight. value.hex, guess, Read. -/
import Derived.Test.YtkkildkleleppaaGreatDoorJ02
import Derived.Test.YtkkildkleleppaaGreatDoorJ04
namespace Go.Proofs.YtkkildkleleppaaGreatDoor

/-- The text between the signs at the ends. -/
def innerL (l : List UInt8) (a : Nat) : List UInt8 := (l.take (l.length - 1)).drop a
def pieceL (l : List UInt8) (i k : Nat) : List UInt8 := (l.take k).drop i
theorem extract_list (s : ByteArray) (a b : Nat) : (s.extract a b).data.toList = (s.data.toList.take b).drop a := by
  simp [ByteArray.extract, ByteArray.copySlice, List.drop_take]
theorem idx0 (s : ByteArray) (h : 0 < s.size) : s.data.toList[0]? = some s[0] := by
  rw [List.getElem?_eq_getElem (by simpa using h)]; rfl
theorem u8_beq (c d : UInt8) : (((c.toNat : Int) == (d.toNat : Int)) = (c == d)) := by
  rw [Bool.eq_iff_iff]
  simp only [beq_iff_eq, Int.ofNat_inj]
  exact UInt8.toNat_inj
theorem u8_eq {c d : UInt8} (h : c = d) : ((c.toNat : Int) == (d.toNat : Int)) = true := by rw [u8_beq]; simp [h]
theorem u8_ne {c d : UInt8} (h : ¬ c = d) : ((c.toNat : Int) == (d.toNat : Int)) = false := by rw [u8_beq]; simp [h]
theorem drop_one (s : ByteArray) (k : Nat) (h : k < s.size) : s.data.toList.drop k = s[k] :: s.data.toList.drop (k + 1) := by
  rw [List.drop_eq_getElem_cons (by simpa using h)]; rfl

def tog (q : Bool) (c : UInt8) : Bool := if c = 39 then !q else q
/-- The places behind the line's ends that stand not within quotes; i: the place of the first byte. -/
def endsL : Bool → Nat → List UInt8 → List Nat
  | _, _, [] => []
  | q, i, c :: r => if c = 10 ∧ tog q c = false then (i + 1) :: endsL (tog q c) (i + 1) r else endsL (tog q c) (i + 1) r
/-- The pieces between the commas that stand not within quotes; the last byte is left out. -/
def cutsL : Bool → List UInt8 → List UInt8 → List (List UInt8)
  | _, _, [] => []
  | q, acc, c :: r => if tog q c = false ∧ (c = 44 ∨ r = []) then acc :: cutsL (tog q c) [] r else cutsL (tog q c) (acc ++ [c]) r

/-! ### The document's literals -/
def stepN (neg : Bool) (n : Int) (c : UInt8) : Option Int :=
  if c.toNat < 48 ∨ 57 < c.toNat then none
  else if neg = true ∧ n < Int.tdiv (-9223372036854775808 + ((c.toNat : Int) - 48)) 10 ∨ neg = false ∧ Int.tdiv (9223372036854775807 - ((c.toNat : Int) - 48)) 10 < n then none
  else some (if neg then n * 10 - ((c.toNat : Int) - 48) else n * 10 + ((c.toNat : Int) - 48))
def numGo (neg : Bool) : Int → List UInt8 → Option Int
  | n, [] => some n
  | n, c :: r => match stepN neg n c with | none => none | some m => numGo neg m r
def negL (l : List UInt8) : Bool := l[0]? == some 45
def numAt (l : List UInt8) : Nat := if negL l then 1 else 0
/-- The integer of a text as it is written. -/
def rnum (l : List UInt8) : Option Int :=
  if numAt l = l.length ∨ (l[numAt l]? = some 48 ∧ 1 < l.length) then none else numGo (negL l) 0 (l.drop (numAt l))
/-- The bytes between quotes of a text's literal. -/
def rtextL : List UInt8 → Option (List UInt8)
  | [] => some []
  | [c] => if c = 39 then none else some [c]
  | c :: d :: r => if c = 39 then (if d = 39 then (rtextL r).map (39 :: ·) else none) else (rtextL (d :: r)).map (c :: ·)
def rblobB (l : List UInt8) : Bool := l[0]? == some 120
def rfrom (l : List UInt8) : Nat := if rblobB l then 1 else 0
def rkind (l : List UInt8) : Int := if rblobB l then 3 else 2
/-- What a digit to the base 16 is worth. -/
def nib (c : UInt8) : Int := if 48 ≤ c.toNat ∧ c.toNat ≤ 57 then (c.toNat : Int) - 48 else if 97 ≤ c.toNat ∧ c.toNat ≤ 102 then (c.toNat : Int) - 87 else -1
/-- A blob's bytes. -/
def rhexL : List UInt8 → Option (List UInt8)
  | [] => some []
  | [_] => none
  | a :: b :: r => if nib a < 0 ∨ nib b < 0 then none else (rhexL r).map (UInt8.ofNat ((nib a).toNat * 16 + (nib b).toNat) :: ·)
def rbytes (b : Bool) (l : List UInt8) : Option (List UInt8) := if b then rhexL l else rtextL l
def rquo (l : List UInt8) : Option (List UInt8) :=
  if l.length < rfrom l + 2 ∨ l[rfrom l]? ≠ some 39 ∨ l[l.length - 1]? ≠ some 39 then none else rbytes (rblobB l) (innerL l (rfrom l + 1))
/-- The document's value of a literal. -/
def rread (l : List UInt8) : Option V :=
  if 1000 < l.length then none
  else if l = [78, 85, 76, 76] then some ⟨0, 0, ByteArray.empty⟩
  else match rnum l with
    | some n => some ⟨1, n, ByteArray.empty⟩
    | none => match rquo l with
      | none => none
      | some b => if b.length ≤ 400 then some ⟨rkind l, 0, ⟨b.toArray⟩⟩ else none

def readAll : List (List UInt8) → Option (List V)
  | [] => some []
  | l :: ls => match rread l with | none => none | some v => (readAll ls).map (v :: ·)
/-- The text of a piece in quotes. -/
def sqlS (h : List UInt8) : Option (List UInt8) := if h.length < 2 ∨ h[0]? ≠ some 39 ∨ h[h.length - 1]? ≠ some 39 then none else rtextL (innerL h 1)
/-- What the pieces of a part tell. -/
def toldS : List (List UInt8) → Option T
  | [] => none
  | h :: ls => match sqlS h with | none => none | some x => match readAll ls with | none => none | some ps => some ⟨⟨x.toArray⟩, ps⟩
/-- The document's part. -/
def oneS (p : List UInt8) : Option T := match toldS (cutsL false [] p) with | none => none | some t => if t.may = true ∧ t.part = p then some t else none

/-- The document's reader over the ends. -/
def refRun (l : List UInt8) : List Nat → Nat → Except Nat (List T)
  | [], k => if k < l.length then .error k else .ok []
  | e :: es, k => match oneS (pieceL l k e) with
    | none => .error k
    | some t => match refRun l es e with | .error x => .error x | .ok ts => .ok (t :: ts)
end Go.Proofs.YtkkildkleleppaaGreatDoor
namespace Go.Proofs.YtkkildkleleppaaGreatDoor
open Go.RowKit

def hexL : List UInt8 := [48, 49, 50, 51, 52, 53, 54, 55, 56, 57, 97, 98, 99, 100, 101, 102]
def xd (c : UInt8) : Int := Lib.indexByte hexL c
/-- The bytes of digits to the base 16. -/
def unhex : List UInt8 → Option (List UInt8)
  | [] => some []
  | [_] => none
  | a :: b :: r => if xd a < 0 ∨ xd b < 0 then none else (unhex r).map (UInt8.ofNat ((xd a).toNat * 16 + (xd b).toNat) :: ·)

set_option maxRecDepth 100000 in
theorem xd_all : ∀ c : Fin 256, -1 ≤ xd (UInt8.ofNat c.val) ∧ xd (UInt8.ofNat c.val) ≤ 15 := by decide
theorem ofNat_toNat8 (c : UInt8) : UInt8.ofNat c.toNat = c := by simp
theorem xd_bounds (c : UInt8) : -1 ≤ xd c ∧ xd c ≤ 15 := by
  have h := xd_all ⟨c.toNat, c.toNat_lt⟩
  simpa using h
theorem xd_arg (c : UInt8) : Lib.indexByte (ByteArray.mk #[48, 49, 50, 51, 52, 53, 54, 55, 56, 57, 97, 98, 99, 100, 101, 102]).data.toList ((c.toNat : Int).toNat.toUInt8) = xd c := by
  have : ((c.toNat : Int).toNat.toUInt8) = c := by simp
  rw [this]; rfl

set_option maxRecDepth 100000 in
theorem bits_all : ∀ i j : Fin 16, bits .or .i64 ((i.val : Int) * 16) (j.val : Int) % 256 = ((UInt8.ofNat (i.val * 16 + j.val)).toNat : Int) := by decide
theorem bits_hex (a b : Int) (h0 : 0 ≤ a) (h1 : a ≤ 15) (h2 : 0 ≤ b) (h3 : b ≤ 15) : bits .or .i64 (a * 16) b % 256 = ((UInt8.ofNat (a.toNat * 16 + b.toNat)).toNat : Int) := by
  have h := bits_all ⟨a.toNat, by omega⟩ ⟨b.toNat, by omega⟩
  simp only at h
  rw [Int.toNat_of_nonneg h0, Int.toNat_of_nonneg h2] at h
  exact h
theorem drop_cons2 (s : ByteArray) (k : Nat) (h : k + 1 < s.size) : s.data.toList.drop k = s[k] :: s[k + 1] :: s.data.toList.drop (k + 2) := by
  rw [List.drop_eq_getElem_cons (by simpa using (by omega : k < s.size)), List.drop_eq_getElem_cons (by simpa using h)]; rfl

def HexEnd (l : List UInt8) (w : World) (e : Ending) (w' : World) : Prop := ∃ x, Ret w (.tuple #[.string x, .bool (unhex l).isSome]) e w' ∧ ∀ y, unhex l = some y → x = ⟨y.toArray⟩

set_option maxRecDepth 100000 in
set_option maxHeartbeats 1000000 in
theorem hex_any (s : ByteArray) (hs : s.size ≤ 1099511627776) (w : World) : Calls Tryz.prog 182 #[.string s] w (HexEnd s.data.toList w) := by
  go_enter Tryz.func182, Tryz.ntmps182
  go_wp2_with fail
  go_loopw [4, 5] (fun out i wr => ∃ (k : Nat) (x : List UInt8), k ≤ s.size ∧ k % 2 = 0 ∧ i = .int .i64 k ∧ OwnB 5 wr w.heap.size out x ∧ x.length ≤ k ∧ Below w.heap.size w wr ∧
      Hid (unhex s.data.toList = (unhex (s.data.toList.drop k)).map (x ++ ·))) (fun _ i _ => s.size - (intOf i).toNat)
  case atStart => exact ⟨0, [], by omega, rfl, rfl, OwnB.nil_ _ _ _, by simp, Below.refl _ _, Lib.hid (by simp)⟩
  case round =>
    obtain ⟨k, x, hk, hpar, rfl, hown, hxl, hb, HX⟩ := hrel
    by_cases hlt : k + 1 < s.size
    · have HD := Lib.hid (drop_cons2 s k hlt)
      have hk0 : (0 : Int) ≤ (k : Int) := Int.natCast_nonneg _
      have hA := xd_bounds s[k]
      have hB := xd_bounds s[k + 1]
      by_cases ha : xd s[k] < 0
      · go_wp2_with (go_at_call 189; refine (Tryz.strings_IndexByte _ _ _).mono ?_; rintro e w1 ⟨rfl, rfl⟩; rw [xd_arg])
        go_ret2
        have hn : unhex s.data.toList = none := by rw [HX.out, HD.out]; simp [unhex, ha]
        unfold HexEnd; rw [hn]
        exact ⟨_, ⟨rfl, hb⟩, by simp⟩
      · by_cases hb2 : xd s[k + 1] < 0
        · go_wp2_with (go_at_call 189; refine (Tryz.strings_IndexByte _ _ _).mono ?_; rintro e w1 ⟨rfl, rfl⟩; rw [xd_arg])
          go_ret2
          have hn : unhex s.data.toList = none := by rw [HX.out, HD.out]; simp [unhex, hb2]
          unfold HexEnd; rw [hn]
          exact ⟨_, ⟨rfl, hb⟩, by simp⟩
        · generalize hea : xd s[k] = a at ha hA
          generalize heb : xd s[k + 1] = b at hb2 hB
          have HA := Lib.hid hea
          have HB := Lib.hid heb
          have HT := Lib.hid (bits_hex a b (by omega) hA.2 (by omega) hB.2)
          go_wp2_with (first
            | (go_at_call 189; refine (Tryz.strings_IndexByte _ _ _).mono ?_; rintro e w1 ⟨rfl, rfl⟩; rw [xd_arg]; first | rw [HA.out] | rw [HB.out])
            | (at_builtin; rw [HT.out]; refine wpList_pushB w1 5 _ rfl (.tmp 30) (.tmp 36) _ rfl w.heap.size Tryz.underlying67 infoB _ _ rfl hown [UInt8.ofNat (a.toNat * 16 + b.toNat)] rfl 1 1 rfl rfl (by simp; omega) hb.size ?_; intro v3 w3 hown3 hg3))
          go_roundw
          case rel =>
            refine ⟨k + 2, _, by omega, by omega, by go_num, hown3, by simp; omega, OwnB.next hown hb hg3 hb.size, ?_⟩
            apply Lib.hid
            rw [HX.out, HD.out]
            simp only [unhex]
            rw [HA.out, HB.out, if_neg (by omega)]
            cases unhex (s.data.toList.drop (k + 2)) <;> simp
          case measure => simp [intOf]; omega
    · have hk2 : k = s.size ∨ k + 1 = s.size := by omega
      rcases hk2 with hk2 | hk2
      · have hd : s.data.toList.drop k = [] := by rw [hk2]; exact List.drop_of_length_le (Nat.le_refl _)
        have HU : Hid (unhex s.data.toList = some x) := by apply Lib.hid; rw [HX.out, hd]; simp [unhex]
        have hm : (s.size : Int) % 2 = 0 := by omega
        clear HX hd
        have hcv := run_convert_own (P := Tryz.prog) wr _ 5 9 Tryz.underlying67 Tryz.underlying5 Tryz.underlying9 _ _ _ hown
        go_wp2
        go_ret2
        unfold HexEnd; rw [HU.out]
        exact ⟨⟨x.toArray⟩, ⟨by simp [hm], hb⟩, fun y hy => by cases hy; rfl⟩
      · have hl : s.data.toList.drop k = [s[k]'(by omega)] := by rw [List.drop_eq_getElem_cons (by simpa using (by omega : k < s.size)), List.drop_of_length_le (by simpa using (by omega : s.size ≤ k + 1))]; rfl
        have HU : Hid (unhex s.data.toList = none) := by apply Lib.hid; rw [HX.out, hl]; simp [unhex]
        have hm : (s.size : Int) % 2 = 1 := by omega
        clear HX hl
        have hcv := run_convert_own (P := Tryz.prog) wr _ 5 9 Tryz.underlying67 Tryz.underlying5 Tryz.underlying9 _ _ _ hown
        go_wp2
        go_ret2
        unfold HexEnd; rw [HU.out]
        exact ⟨⟨x.toArray⟩, ⟨by simp [hm], hb⟩, fun y hy => by cases hy⟩
end Go.Proofs.YtkkildkleleppaaGreatDoor
