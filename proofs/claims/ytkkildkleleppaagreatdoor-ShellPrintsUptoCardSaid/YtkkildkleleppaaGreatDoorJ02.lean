/- Go's library at this translation: contracts in the words of this seat's texts. Plain functions on bytes: literals of values and of things told. No program in sight. -/
import Derived.Test.YtkkildkleleppaaGreatDoorJ01
import Derived.Lib.LaidTab
import Derived.Lib.SmallJoins
import Derived.Lib.AppendIntMem
import Derived.Lib.ItoaNum
namespace Go.Proofs.YtkkildkleleppaaGreatDoor
open Go.RowKit

/-- What the package variables that the library reads hold. -/
structure Env (w : World) : Prop where
  max : ∃ m : Int, w.cell? ⟨0, 0, none⟩ = some (.int .i64 m)
  pow : Lib.TabIs Tryz.prog w "internal/strconv.uint64pow10" .u64 Lib.pow10Tab
  es : ∃ t p, w.var? Tryz.prog "strconv.ErrSyntax" = some #[.iface t p]
  er : ∃ t p, w.var? Tryz.prog "strconv.ErrRange" = some #[.iface t p]

theorem var_kept {P : Program} {w w' : World} {n : String} {cs : Array Value} (h : w.var? P n = some cs) (hb : Below w.heap.size w w') : w'.var? P n = some cs := by
  unfold World.var? at h ⊢
  cases hg : P.globalNamed n with
  | none => rw [hg] at h; cases h
  | some g =>
    rw [hg] at h
    simp only [Option.bind_some] at h ⊢
    have hlt : g < w.heap.size := by
      rcases Nat.lt_or_ge g w.heap.size with hlt | hge
      · exact hlt
      · rw [Array.getElem?_eq_none hge] at h; cases h
    rw [hb.block g hlt]
    exact h

theorem Env.below {w w' : World} (h : Env w) (hb : Below w.heap.size w w') : Env w' := by
  obtain ⟨⟨m, hm⟩, hp, ⟨t, p, he⟩, ⟨t', p', hr⟩⟩ := h
  exact ⟨⟨m, (hb.cell (lt_of_cell hm)).trans hm⟩, var_kept hp hb, ⟨t, p, var_kept he hb⟩, ⟨t', p', var_kept hr hb⟩⟩

theorem FormatInt_any (n : Int) (h0 : -9223372036854775808 ≤ n) (h1 : n ≤ 9223372036854775807) (w : World) (hE : Env w) :
    Calls Tryz.prog 69 #[.int .i64 n, .int .i64 10] w (Ret w (.string ⟨(Lib.itoa n).toArray⟩)) :=
  (Tryz.strconv_FormatInt_10 n h0 h1 w hE.pow).mono fun e w' ⟨he, k, os, hw⟩ => ⟨he, by rw [hw]; exact Lib.below_grow _ _ (Nat.le_refl _) _ _⟩

theorem Itoa_any (n : Int) (h0 : -9223372036854775808 ≤ n) (h1 : n ≤ 9223372036854775807) (w : World) (hE : Env w) :
    Calls Tryz.prog 111 #[.int .i64 n] w (Ret w (.string ⟨(Lib.itoa n).toArray⟩)) :=
  (Tryz.strconv_Itoa n h0 h1 w hE.pow).mono fun e w' ⟨he, k, os, hw⟩ => ⟨he, by rw [hw]; exact Lib.below_grow _ _ (Nat.le_refl _) _ _⟩

/-- What strconv.Atoi reads; none: it reports an error. -/
def atoiO (l : List UInt8) : Option Int := match Lib.atoiAll l with
  | .ok v => some v
  | _ => none

def AtoiEnd (l : List UInt8) (w : World) (e : Ending) (w' : World) : Prop :=
  match atoiO l with
  | some v => Ret w (.tuple #[.int .i64 v, .nilIface]) e w'
  | none => ∃ (n : Int) (t : TypeId) (p : Value), Ret w (.tuple #[.int .i64 n, .iface t p]) e w'

theorem Atoi_any (s : ByteArray) (hs : s.size ≤ 281474976710656) (w : World) (hE : Env w) :
    Calls Tryz.prog 156 #[.string s] w (AtoiEnd s.data.toList w) := by
  unfold AtoiEnd atoiO
  obtain ⟨t, p, he⟩ := hE.es
  obtain ⟨t', p', hr⟩ := hE.er
  cases h : Lib.atoiAll s.data.toList with
  | ok v =>
    refine (Tryz.strconv_Atoi_ok s (by omega) v h w).mono fun e w' ⟨he, hw⟩ => ⟨he, ?_⟩
    rcases hw with rfl | ⟨t, rfl⟩
    · exact Below.refl _ _
    · exact Joins.below_bytesWorld _ _ _ _ (Nat.le_refl _)
  | range =>
    exact (Any.strconv_Atoi_range_var Tryz.laysC172 s hs h t' p' w hr).mono fun e w' ⟨N, he, _, _, hb⟩ => ⟨_, _, _, he, hb⟩
  | _ =>
    exact (Any.strconv_Atoi_syntax_var Tryz.laysC172 s hs h t p w he).mono fun e w' ⟨N, he, _, _, hb⟩ => ⟨_, _, _, he, hb⟩

/-- What strconv.ParseInt reads at base 10 and 64 bits; none: it reports an error. -/
def pIntO (l : List UInt8) : Option Int := match Lib.parseIntB 64 l with
  | .ok v => some v
  | _ => none

def PIntEnd (l : List UInt8) (w : World) (e : Ending) (w' : World) : Prop :=
  match pIntO l with
  | some v => Ret w (.tuple #[.int .i64 v, .nilIface]) e w'
  | none => ∃ (n : Int) (t : TypeId) (p : Value), Ret w (.tuple #[.int .i64 n, .iface t p]) e w'

theorem ParseInt_any (s : ByteArray) (hs : s.size ≤ 281474976710656) (w : World) (hE : Env w) :
    Calls Tryz.prog 180 #[.string s, .int .i64 10, .int .i64 64] w (PIntEnd s.data.toList w) := by
  unfold PIntEnd pIntO
  obtain ⟨t, p, he⟩ := hE.es
  obtain ⟨t', p', hr⟩ := hE.er
  cases h : Lib.parseIntB 64 s.data.toList with
  | ok v =>
    refine (Tryz.strconv_ParseInt_10_at64_ok s (by omega) v h w).mono fun e w' ⟨he, hw⟩ => ⟨he, ?_⟩
    rcases hw with rfl | ⟨t, rfl⟩
    · exact Below.refl _ _
    · exact Joins.below_bytesWorld _ _ _ _ (Nat.le_refl _)
  | range =>
    exact (Any.strconv_ParseInt_10_at64_range_var Tryz.laysC174 s hs h t' p' w hr).mono fun e w' ⟨N, he, _, _, hb⟩ => ⟨_, _, _, he, hb⟩
  | _ =>
    exact (Any.strconv_ParseInt_10_at64_syntax_var Tryz.laysC174 s hs h t p w he).mono fun e w' ⟨N, he, _, _, hb⟩ => ⟨_, _, _, he, hb⟩

theorem ReplaceAll_any (s old new : ByteArray) (w : World) (hE : Env w) (hs : s.size < 4294967281) (h1 : 1 ≤ old.size) (hlen : s.size + Lib.countB s old * new.size ≤ 140737488355328) :
    Calls Tryz.prog 70 #[.string s, .string old, .string new] w (Ret w (.string ⟨(Lib.replaceAll s.data.toList old.data.toList new.data.toList).toArray⟩)) := by
  obtain ⟨m, hm⟩ := hE.max
  exact (Tryz.strings_ReplaceAll s old new m w hs hm h1 hlen).mono fun e w' ⟨he, hb⟩ => ⟨he, hb⟩

/-- A builder that holds the bytes l: it lies in block b; what it writes lies from block B on. -/
def IsB (w : World) (B b : Nat) (l : List UInt8) : Prop := Lib.IsBuilderF 69 5 B b (Lib.byteCells l) w

def BWrote (w : World) (B b : Nat) (l : List UInt8) (v : Value) (e : Ending) (w' : World) : Prop :=
  e = .returned v ∧ IsB w' B b l ∧ Below B w w' ∧ Lib.OthersKept 5 (some b) w w'

theorem WriteString_any (B b : Nat) (l : List UInt8) (s : ByteArray) (w : World) (h : IsB w B b l) (hlen : l.length + s.size ≤ 140737488355328) (hB : B ≤ w.heap.size) :
    Calls Tryz.prog 26 #[.pointer (some ⟨b, 0, none⟩), .string s] w (BWrote w B b (l ++ s.data.toList) (.tuple #[.int .i64 s.size, .nilIface])) := by
  have h2 := Any.Builder_WriteString_k { Tryz.lays156 with } Tryz.Builder_Extra_156 B b (Lib.byteCells l) s w h (by rw [Lib.byteCells_length]; exact hlen) hB
  refine h2.mono fun e w' ⟨he, hb, h3, h4⟩ => ⟨he, .inr ?_, h3, h4⟩
  rw [Lib.byteCells_append]
  exact hb

def lays167_ren : Go.Shelf.Ren := ⟨fun | 167 => 29 | n => Tryz.lays156_ren.f n, Tryz.lays156_ren.t, Tryz.lays156_ren.g⟩
theorem lays167 : Lays.n167 Tryz.prog lays167_ren :=
  { Tryz.lays156 with f167 := Tryz.func29.trans (congrArg some (by kernel_rfl)), f240 := Tryz.lays156.f240, f276 := Tryz.lays156.f276, t5 := Tryz.Builder_Extra_156.t5, a5 := Tryz.Builder_Extra_156.a5, z5 := Tryz.Builder_Extra_156.z5, v5 := Tryz.Builder_Extra_156.v5 }
theorem X167 : Builder.Extra Tryz.prog lays167_ren :=
  have X := Tryz.Builder_Extra_156
  { sizeBuilder := X.sizeBuilder, liesBuilder := by kernel_rfl, t5 := X.t5, a5 := X.a5, z5 := X.z5, v5 := X.v5, infoByte := X.infoByte, cellsByte := X.cellsByte, sizeByte := X.sizeByte, neB5 := X.neB5 }

theorem WriteByte_any (B b : Nat) (l : List UInt8) (c : UInt8) (w : World) (h : IsB w B b l) (hlen : l.length + 1 ≤ 140737488355328) (hB : B ≤ w.heap.size) :
    Calls Tryz.prog 29 #[.pointer (some ⟨b, 0, none⟩), .int .u8 (c.toNat : Int)] w (BWrote w B b (l ++ [c]) .nilIface) := by
  have h2 := Any.Builder_WriteByte_k lays167 X167 B b (Lib.byteCells l) (c.toNat : Int) w h (by rw [Lib.byteCells_length]; exact hlen) hB
  refine h2.mono fun e w' ⟨he, hb, h3, h4⟩ => ⟨he, .inr ?_, h3, h4⟩
  rw [Lib.byteCells_append]
  exact hb

theorem BString_any (B b : Nat) (l : List UInt8) (w : World) (h : IsB w B b l) (hB : B ≤ w.heap.size) :
    Calls Tryz.prog 30 #[.pointer (some ⟨b, 0, none⟩)] w (BWrote w B b l (.string ⟨l.toArray⟩)) :=
  (Tryz.Builder_String_any_k B b l w h hB).mono fun _ _ ⟨he, hb, h3, h4⟩ => ⟨he, hb, h3, h4⟩

theorem IsB.fresh (w : World) : IsB (w.alloc (.cells #[.pointer none, .slice none 0 0] 69)) w.heap.size w.heap.size [] := Lib.IsBuilderF.of (Lib.fresh_isBuilder _ _ w)
theorem IsB.alloc {w : World} {B b : Nat} {l : List UInt8} (h : IsB w B b l) (o : Obj) : IsB (w.alloc o) B b l := Lib.IsBuilderF.alloc h o
theorem grownBy_none_of_below {w w' : World} (h : Below w.heap.size w w') : w.grownBy w' none := ⟨h.os, h.tape, h.output, h.size, fun k hk _ => h.block k hk⟩
theorem IsB.below {w w' : World} {B b : Nat} {l : List UInt8} (h : IsB w B b l) (hb : Below w.heap.size w w') : IsB w' B b l := by
  have key : ∀ p, Lib.BuilderAtF 69 5 B b p (Lib.byteCells l) w → Lib.BuilderAtF 69 5 B b p (Lib.byteCells l) w' := by
    intro p h
    have hlt := h.lt
    obtain ⟨hB, v, h1, hown, hne⟩ := h
    exact ⟨hB, v, (hb.block b hlt).trans h1, hown.kept (grownBy_none_of_below hb) (by cases v.ownBlock <;> simp), hne⟩
  exact h.elim (fun h => .inl (key _ h)) (fun h => .inr (key _ h))
theorem IsB.lt {w : World} {B b : Nat} {l : List UInt8} (h : IsB w B b l) : b < w.heap.size := h.elim (fun h => h.lt) (fun h => h.lt)
/-- A block of another type, behind a write into a builder. -/
theorem kept_block {e T : TypeId} {b k : Nat} {w w' : World} {cs : Array Value} {fz : Nat × Nat} (h : Lib.OthersKept e (some b) w w') (hk : w.heap[k]? = some (.cells cs T fz)) (hne : k ≠ b) (hT : T ≠ e) : w'.heap[k]? = some (.cells cs T fz) :=
  h k _ hk (fun e1 => hne (Option.some.inj e1)) (fun _ _ e1 => by injection e1 with _ h2; exact hT h2)

/-- strings.Join of the strings that lie behind a slice. -/
def IsSs (w : World) (a : Option Addr) (ss : List ByteArray) : Prop :=
  ss = [] ∨ ∃ b o, a = some ⟨b, o, none⟩ ∧ ∀ i s, ss[i]? = some s → w.cell? ⟨b, o + i, none⟩ = some (.string s)

theorem IsSs.below {w w' : World} {a : Option Addr} {ss : List ByteArray} (h : IsSs w a ss) (hb : Below w.heap.size w w') : IsSs w' a ss := by
  rcases h with h | ⟨b, o, h, hv⟩
  · exact .inl h
  · exact .inr ⟨b, o, h, fun i s hi => (hb.cell (lt_of_cell (hv i s hi))).trans (hv i s hi)⟩

theorem Join_any (a : Option Addr) (n c : Nat) (ss : List ByteArray) (sep : ByteArray) (w : World) (h : IsSs w a ss) (hn : n = ss.length) (hc : n ≤ c) (hN : n ≤ 140737488355328)
    (hlen : (Lib.join (ss.map (·.data.toList)) sep.data.toList).length ≤ 140737488355328) :
    Calls Tryz.prog 112 #[.slice a n c, .string sep] w (Ret w (.string ⟨(Lib.join (ss.map (·.data.toList)) sep.data.toList).toArray⟩)) := by
  subst hn
  rcases h with rfl | ⟨b, o, rfl, hv⟩
  · refine (Tryz.strings_Join_none a c sep w).mono fun e w' ⟨he, hw⟩ => ⟨he, ?_⟩
    rw [hw]; exact Below.refl _ _
  · by_cases hs : ss = []
    · subst hs
      refine (Tryz.strings_Join_none _ c sep w).mono fun e w' ⟨he, hw⟩ => ⟨he, ?_⟩
      rw [hw]; exact Below.refl _ _
    · have hl : 0 < ss.length := List.length_pos_iff.2 hs
      refine (Tryz.strings_Join b o c ss sep w hv ?_ hN hc hlen).mono fun e w' ⟨he, hb⟩ => ⟨he, hb⟩
      exact lt_of_cell (hv 0 ss[0] (List.getElem?_eq_getElem hl))

theorem below_drawn {B : Nat} {w : World} (n : Nat) : Below B w (w.drewN n) := ⟨rfl, rfl, rfl, Nat.le_refl _, fun _ _ => rfl⟩

theorem Cut_any (s sep : ByteArray) (w : World) (hE : Env w) (hs : s.size < 4294967281) :
    Calls Tryz.prog 39 #[.string s, .string sep] w (Ret w (.tuple #[.string ⟨(Lib.cut s.data.toList sep.data.toList).1.toArray⟩, .string ⟨(Lib.cut s.data.toList sep.data.toList).2.1.toArray⟩, .bool (Lib.cut s.data.toList sep.data.toList).2.2])) := by
  obtain ⟨m, hm⟩ := hE.max
  exact (Tryz.strings_Cut s sep m w hs hm).mono fun e w' ⟨he, n, hw⟩ => ⟨he, by rw [hw]; exact below_drawn n⟩

theorem TrimPrefix_any (s p : ByteArray) (w : World) :
    Calls Tryz.prog 138 #[.string s, .string p] w (Ret w (.string ⟨(Lib.trimPrefix s.data.toList p.data.toList).toArray⟩)) :=
  (Tryz.strings_TrimPrefix s p w).mono fun e w' ⟨he, hw⟩ => ⟨he, by rw [hw]; exact Below.refl _ _⟩

end Go.Proofs.YtkkildkleleppaaGreatDoor
namespace Go.Proofs.YtkkildkleleppaaGreatDoor

/-- May a value be? -/
def mayB (k n : Int) (s : List UInt8) : Bool :=
  if k = 0 then decide (n = 0) && s.isEmpty
  else if k = 1 then s.isEmpty
  else if k = 2 ∨ k = 3 then decide (n = 0) && decide (s.length ≤ 400)
  else false
def V.may (v : V) : Bool := mayB v.k v.n v.s.data.toList
/-- The value's number is one of 64 bits. -/
def V.fit (v : V) : Prop := -9223372036854775808 ≤ v.n ∧ v.n ≤ 9223372036854775807

theorem size_len (s : ByteArray) : s.data.toList.length = s.size := rfl

def dblOne (c : UInt8) : List UInt8 := if c = 39 then [39, 39] else [c]
/-- Each quote twice. -/
def dbl (l : List UInt8) : List UInt8 := l.flatMap dblOne
def hexd (n : Nat) : UInt8 := UInt8.ofNat (if n < 10 then 48 + n else 87 + n)
theorem hexStr_get (i : Nat) (h : i < 16) (h' : i < (ByteArray.mk #[48, 49, 50, 51, 52, 53, 54, 55, 56, 57, 97, 98, 99, 100, 101, 102]).size) :
    (ByteArray.mk #[48, 49, 50, 51, 52, 53, 54, 55, 56, 57, 97, 98, 99, 100, 101, 102])[i]'h' = hexd i := by
  have key : ∀ j : Fin 16, (ByteArray.mk #[48, 49, 50, 51, 52, 53, 54, 55, 56, 57, 97, 98, 99, 100, 101, 102])[j.val]'(j.isLt) = hexd j.val := by decide
  exact key ⟨i, h⟩
def hexOne (c : UInt8) : List UInt8 := [hexd (c.toNat / 16), hexd (c.toNat % 16)]
/-- The bytes' digits to the base 16. -/
def hexs (l : List UInt8) : List UInt8 := l.flatMap hexOne

def quoted (l : List UInt8) : List UInt8 := 39 :: (dbl l ++ [39])
def blobbed (l : List UInt8) : List UInt8 := 120 :: 39 :: (hexs l ++ [39])

/-- A value's literal; empty, if it may not be. -/
def V.lit (v : V) : List UInt8 :=
  if v.may then
    if v.k = 0 then [78, 85, 76, 76] else if v.k = 1 then Lib.itoa v.n else if v.k = 2 then quoted v.s.data.toList else blobbed v.s.data.toList
  else []
def V.litE (v : V) : Int := if v.may then 0 else 2

/-- Is there a value that may not be? -/
def badV (vs : List V) : Bool := vs.any (fun v => !v.may)
def checkV (vs : List V) : Int := if badV vs then 2 else if 16 < vs.length then 3 else 0
theorem badV_of {vs : List V} {k : Nat} (hk : k < vs.length) (h : vs[k].may = false) : badV vs = true := by
  simp only [badV, List.any_eq_true]
  exact ⟨vs[k], List.getElem_mem hk, by simp [h]⟩
theorem badV_no {vs : List V} (h : vs.all V.may = true) : badV vs = false := by simpa [badV] using h
theorem checkV_bad (vs : List V) (k : Nat) (hk : k < vs.length) (h : vs[k].may = false) : checkV vs = 2 := by simp [checkV, badV_of hk h]
theorem checkV_long (vs : List V) (h : badV vs = false) (hl : 16 < vs.length) : checkV vs = 3 := by simp [checkV, h, hl]
theorem checkV_ok (vs : List V) (h : badV vs = false) (hl : ¬ 16 < vs.length) : checkV vs = 0 := by simp [checkV, h, hl]

/-- May what is told be? -/
def T.may (t : T) : Bool := decide (t.sql.size ≤ 2000) && decide (t.ps.length ≤ 16) && !badV t.ps
/-- The text of what is told. -/
def paramsT (ps : List V) : List UInt8 := ps.flatMap fun v => 44 :: v.lit
def T.part (t : T) : List UInt8 := quoted t.sql.data.toList ++ paramsT t.ps ++ [10]
def flatT (ts : List T) : List UInt8 := ts.flatMap T.part
theorem flatT_append (a b : List T) : flatT (a ++ b) = flatT a ++ flatT b := by simp [flatT]
theorem flatT_one (t : T) : flatT [t] = t.part := by simp [flatT]
def textS (ts : List T) : List UInt8 := if ts.all T.may then flatT ts else []
def textE (ts : List T) : Int := if ts.all T.may then 0 else 2

theorem dbl_nil : dbl [] = [] := rfl
theorem dbl_append (a b : List UInt8) : dbl (a ++ b) = dbl a ++ dbl b := by simp [dbl]
theorem hexs_append (a b : List UInt8) : hexs (a ++ b) = hexs a ++ hexs b := by simp [hexs]
theorem take_snoc (s : ByteArray) (k : Nat) (h : k < s.size) : s.data.toList.take (k + 1) = s.data.toList.take k ++ [s[k]] := by
  rw [List.take_succ_eq_append_getElem (by simpa using h)]; rfl
theorem dbl_len (l : List UInt8) : (dbl l).length ≤ 2 * l.length := by
  induction l with
  | nil => simp [dbl]
  | cons c r ih =>
    have : dbl (c :: r) = dblOne c ++ dbl r := by simp [dbl]
    rw [this, List.length_append, List.length_cons]
    have : (dblOne c).length ≤ 2 := by unfold dblOne; split <;> simp
    omega
theorem hexs_len (l : List UInt8) : (hexs l).length = 2 * l.length := by
  induction l with
  | nil => simp [hexs]
  | cons c r ih =>
    have : hexs (c :: r) = hexOne c ++ hexs r := by simp [hexs]
    rw [this, List.length_append, List.length_cons, ih]
    simp [hexOne]; omega
theorem dbl_take (s : ByteArray) (k : Nat) (h : k < s.size) : dbl (s.data.toList.take (k + 1)) = dbl (s.data.toList.take k) ++ dblOne s[k] := by
  rw [take_snoc s k h, dbl_append]; simp [dbl]
theorem hexs_take (s : ByteArray) (k : Nat) (h : k < s.size) : hexs (s.data.toList.take (k + 1)) = hexs (s.data.toList.take k) ++ hexOne s[k] := by
  rw [take_snoc s k h, hexs_append]; simp [hexs]
theorem take_len (s : ByteArray) (k : Nat) : (s.data.toList.take k).length ≤ k := List.length_take_le _ _
theorem take_all (s : ByteArray) : s.data.toList.take s.size = s.data.toList := List.take_of_length_le (Nat.le_refl _)

end Go.Proofs.YtkkildkleleppaaGreatDoor
