/- Go's library at this translation: contracts in the words of this seat's texts. -/
import Derived.Test.YtkkildkleleppaaDoorShelf
import Derived.Test.YtkkildkleleppaaDoorMem
import Derived.Lib.LaidTab
import Derived.Lib.SmallJoins
import Derived.Lib.AppendIntMem
namespace Go.Proofs.YtkkildkleleppaaDoor
open Go.RowKit

/-- What the package variables that the library reads hold. -/
structure Env (w : World) : Prop where
  max : ∃ m : Int, w.cell? ⟨1, 0, none⟩ = some (.int .i64 m)
  pow : Lib.TabIs Tryd.prog w "internal/strconv.uint64pow10" .u64 Lib.pow10Tab
  es : ∃ t p, w.var? Tryd.prog "strconv.ErrSyntax" = some #[.iface t p]
  er : ∃ t p, w.var? Tryd.prog "strconv.ErrRange" = some #[.iface t p]

theorem var_kept {P : Program} {w w' : World} {n : String} {cs : Array Value} (h : w.var? P n = some cs) (hb : Below w.heap.size w w') : w'.var? P n = some cs := by
  unfold World.var? at h ⊢
  cases hg : P.globalNamed n with
  | none => rw [hg] at h; cases h
  | some g =>
    rw [hg] at h
    simp only [Option.bind_some] at h ⊢
    have hlt : g < w.heap.size := by
      rcases Nat.lt_or_ge g w.heap.size with hlt | hge
      · exact hlt
      · rw [Array.getElem?_eq_none hge] at h; cases h
    rw [hb.block g hlt]
    exact h

theorem Env.below {w w' : World} (h : Env w) (hb : Below w.heap.size w w') : Env w' := by
  obtain ⟨⟨m, hm⟩, hp, ⟨t, p, he⟩, ⟨t', p', hr⟩⟩ := h
  exact ⟨⟨m, (hb.cell (lt_of_cell hm)).trans hm⟩, var_kept hp hb, ⟨t, p, var_kept he hb⟩, ⟨t', p', var_kept hr hb⟩⟩

theorem FormatInt_any (n : Int) (h0 : -9223372036854775808 ≤ n) (h1 : n ≤ 9223372036854775807) (w : World) (hE : Env w) :
    Calls Tryd.prog 24 #[.int .i64 n, .int .i64 10] w (Ret w (.string ⟨(Lib.itoa n).toArray⟩)) :=
  (Tryd.strconv_FormatInt_10 n h0 h1 w hE.pow).mono fun e w' ⟨he, k, os, hw⟩ => ⟨he, by rw [hw]; exact Lib.below_grow _ _ (Nat.le_refl _) _ _⟩

theorem Itoa_any (n : Int) (h0 : -9223372036854775808 ≤ n) (h1 : n ≤ 9223372036854775807) (w : World) (hE : Env w) :
    Calls Tryd.prog 92 #[.int .i64 n] w (Ret w (.string ⟨(Lib.itoa n).toArray⟩)) :=
  (Tryd.strconv_Itoa n h0 h1 w hE.pow).mono fun e w' ⟨he, k, os, hw⟩ => ⟨he, by rw [hw]; exact Lib.below_grow _ _ (Nat.le_refl _) _ _⟩


/-- What strconv.ParseInt reads at base 10 and 64 bits; none: it reports an error. -/
def pIntO (l : List UInt8) : Option Int := match Lib.parseIntB 64 l with
  | .ok v => some v
  | _ => none

def PIntEnd (l : List UInt8) (w : World) (e : Ending) (w' : World) : Prop :=
  match pIntO l with
  | some v => Ret w (.tuple #[.int .i64 v, .nilIface]) e w'
  | none => ∃ (n : Int) (t : TypeId) (p : Value), Ret w (.tuple #[.int .i64 n, .iface t p]) e w'

theorem ParseInt_any (s : ByteArray) (hs : s.size ≤ 281474976710656) (w : World) (hE : Env w) :
    Calls Tryd.prog 65 #[.string s, .int .i64 10, .int .i64 64] w (PIntEnd s.data.toList w) := by
  unfold PIntEnd pIntO
  obtain ⟨t, p, he⟩ := hE.es
  obtain ⟨t', p', hr⟩ := hE.er
  cases h : Lib.parseIntB 64 s.data.toList with
  | ok v =>
    refine (Tryd.strconv_ParseInt_10_at64_ok s (by omega) v h w).mono fun e w' ⟨he, hw⟩ => ⟨he, ?_⟩
    rcases hw with rfl | ⟨t, rfl⟩
    · exact Below.refl _ _
    · exact Joins.below_bytesWorld _ _ _ _ (Nat.le_refl _)
  | range =>
    exact (Any.strconv_ParseInt_10_at64_range_var Tryd.laysC174 s hs h t' p' w hr).mono fun e w' ⟨N, he, _, _, hb⟩ => ⟨_, _, _, he, hb⟩
  | _ =>
    exact (Any.strconv_ParseInt_10_at64_syntax_var Tryd.laysC174 s hs h t p w he).mono fun e w' ⟨N, he, _, _, hb⟩ => ⟨_, _, _, he, hb⟩

theorem ReplaceAll_any (s old new : ByteArray) (w : World) (hE : Env w) (hs : s.size < 4294967281) (h1 : 1 ≤ old.size) (hlen : s.size + Lib.countB s old * new.size ≤ 140737488355328) :
    Calls Tryd.prog 25 #[.string s, .string old, .string new] w (Ret w (.string ⟨(Lib.replaceAll s.data.toList old.data.toList new.data.toList).toArray⟩)) := by
  obtain ⟨m, hm⟩ := hE.max
  exact (Tryd.strings_ReplaceAll s old new m w hs hm h1 hlen).mono fun e w' ⟨he, hb⟩ => ⟨he, hb⟩

/-- A builder that holds the bytes l: it lies in block b; what it writes lies from block B on. -/
def IsB (w : World) (B b : Nat) (l : List UInt8) : Prop := Lib.IsBuilderF 38 5 B b (Lib.byteCells l) w

def BWrote (w : World) (B b : Nat) (l : List UInt8) (v : Value) (e : Ending) (w' : World) : Prop :=
  e = .returned v ∧ IsB w' B b l ∧ Below B w w' ∧ Lib.OthersKept 5 (some b) w w'

theorem WriteString_any (B b : Nat) (l : List UInt8) (s : ByteArray) (w : World) (h : IsB w B b l) (hlen : l.length + s.size ≤ 140737488355328) (hB : B ≤ w.heap.size) :
    Calls Tryd.prog 10 #[.pointer (some ⟨b, 0, none⟩), .string s] w (BWrote w B b (l ++ s.data.toList) (.tuple #[.int .i64 s.size, .nilIface])) := by
  have h2 := Any.Builder_WriteString_k { Tryd.lays156 with } Tryd.Builder_Extra_156 B b (Lib.byteCells l) s w h (by rw [Lib.byteCells_length]; exact hlen) hB
  refine h2.mono fun e w' ⟨he, hb, h3, h4⟩ => ⟨he, .inr ?_, h3, h4⟩
  rw [Lib.byteCells_append]
  exact hb

def lays167_ren : Go.Shelf.Ren := ⟨fun | 167 => 13 | n => Tryd.lays156_ren.f n, Tryd.lays156_ren.t, Tryd.lays156_ren.g⟩
theorem lays167 : Lays.n167 Tryd.prog lays167_ren :=
  { Tryd.lays156 with f167 := Tryd.func13.trans (congrArg some (by kernel_rfl)), f240 := Tryd.lays156.f240, f276 := Tryd.lays156.f276, t5 := Tryd.Builder_Extra_156.t5, a5 := Tryd.Builder_Extra_156.a5, z5 := Tryd.Builder_Extra_156.z5, v5 := Tryd.Builder_Extra_156.v5 }
theorem X167 : Builder.Extra Tryd.prog lays167_ren :=
  have X := Tryd.Builder_Extra_156
  { sizeBuilder := X.sizeBuilder, liesBuilder := by kernel_rfl, t5 := X.t5, a5 := X.a5, z5 := X.z5, v5 := X.v5, infoByte := X.infoByte, cellsByte := X.cellsByte, sizeByte := X.sizeByte, neB5 := X.neB5 }

theorem WriteByte_any (B b : Nat) (l : List UInt8) (c : UInt8) (w : World) (h : IsB w B b l) (hlen : l.length + 1 ≤ 140737488355328) (hB : B ≤ w.heap.size) :
    Calls Tryd.prog 13 #[.pointer (some ⟨b, 0, none⟩), .int .u8 (c.toNat : Int)] w (BWrote w B b (l ++ [c]) .nilIface) := by
  have h2 := Any.Builder_WriteByte_k lays167 X167 B b (Lib.byteCells l) (c.toNat : Int) w h (by rw [Lib.byteCells_length]; exact hlen) hB
  refine h2.mono fun e w' ⟨he, hb, h3, h4⟩ => ⟨he, .inr ?_, h3, h4⟩
  rw [Lib.byteCells_append]
  exact hb

theorem BString_any (B b : Nat) (l : List UInt8) (w : World) (h : IsB w B b l) (hB : B ≤ w.heap.size) :
    Calls Tryd.prog 14 #[.pointer (some ⟨b, 0, none⟩)] w (BWrote w B b l (.string ⟨l.toArray⟩)) :=
  (Tryd.Builder_String_any_k B b l w h hB).mono fun _ _ ⟨he, hb, h3, h4⟩ => ⟨he, hb, h3, h4⟩

theorem IsB.fresh (w : World) : IsB (w.alloc (.cells #[.pointer none, .slice none 0 0] 38)) w.heap.size w.heap.size [] := Lib.IsBuilderF.of (Lib.fresh_isBuilder _ _ w)
theorem IsB.alloc {w : World} {B b : Nat} {l : List UInt8} (h : IsB w B b l) (o : Obj) : IsB (w.alloc o) B b l := Lib.IsBuilderF.alloc h o
theorem grownBy_none_of_below {w w' : World} (h : Below w.heap.size w w') : w.grownBy w' none := ⟨h.os, h.tape, h.output, h.size, fun k hk _ => h.block k hk⟩
theorem IsB.below {w w' : World} {B b : Nat} {l : List UInt8} (h : IsB w B b l) (hb : Below w.heap.size w w') : IsB w' B b l := by
  have key : ∀ p, Lib.BuilderAtF 38 5 B b p (Lib.byteCells l) w → Lib.BuilderAtF 38 5 B b p (Lib.byteCells l) w' := by
    intro p h
    have hlt := h.lt
    obtain ⟨hB, v, h1, hown, hne⟩ := h
    exact ⟨hB, v, (hb.block b hlt).trans h1, hown.kept (grownBy_none_of_below hb) (by cases v.ownBlock <;> simp), hne⟩
  exact h.elim (fun h => .inl (key _ h)) (fun h => .inr (key _ h))
theorem IsB.lt {w : World} {B b : Nat} {l : List UInt8} (h : IsB w B b l) : b < w.heap.size := h.elim (fun h => h.lt) (fun h => h.lt)
/-- A block of another type, behind a write into a builder. -/
theorem kept_block {e T : TypeId} {b k : Nat} {w w' : World} {cs : Array Value} {fz : Nat × Nat} (h : Lib.OthersKept e (some b) w w') (hk : w.heap[k]? = some (.cells cs T fz)) (hne : k ≠ b) (hT : T ≠ e) : w'.heap[k]? = some (.cells cs T fz) :=
  h k _ hk (fun e1 => hne (Option.some.inj e1)) (fun _ _ e1 => by injection e1 with _ h2; exact hT h2)

/-- strings.Join of the strings that lie behind a slice. -/
def IsSs (w : World) (a : Option Addr) (ss : List ByteArray) : Prop :=
  ss = [] ∨ ∃ b o, a = some ⟨b, o, none⟩ ∧ ∀ i s, ss[i]? = some s → w.cell? ⟨b, o + i, none⟩ = some (.string s)

theorem IsSs.below {w w' : World} {a : Option Addr} {ss : List ByteArray} (h : IsSs w a ss) (hb : Below w.heap.size w w') : IsSs w' a ss := by
  rcases h with h | ⟨b, o, h, hv⟩
  · exact .inl h
  · exact .inr ⟨b, o, h, fun i s hi => (hb.cell (lt_of_cell (hv i s hi))).trans (hv i s hi)⟩

theorem Join_any (a : Option Addr) (n c : Nat) (ss : List ByteArray) (sep : ByteArray) (w : World) (h : IsSs w a ss) (hn : n = ss.length) (hc : n ≤ c) (hN : n ≤ 140737488355328)
    (hlen : (Lib.join (ss.map (·.data.toList)) sep.data.toList).length ≤ 140737488355328) :
    Calls Tryd.prog 34 #[.slice a n c, .string sep] w (Ret w (.string ⟨(Lib.join (ss.map (·.data.toList)) sep.data.toList).toArray⟩)) := by
  subst hn
  rcases h with rfl | ⟨b, o, rfl, hv⟩
  · refine (Tryd.strings_Join_none a c sep w).mono fun e w' ⟨he, hw⟩ => ⟨he, ?_⟩
    rw [hw]; exact Below.refl _ _
  · by_cases hs : ss = []
    · subst hs
      refine (Tryd.strings_Join_none _ c sep w).mono fun e w' ⟨he, hw⟩ => ⟨he, ?_⟩
      rw [hw]; exact Below.refl _ _
    · have hl : 0 < ss.length := List.length_pos_iff.2 hs
      refine (Tryd.strings_Join b o c ss sep w hv ?_ hN hc hlen).mono fun e w' ⟨he, hb⟩ => ⟨he, hb⟩
      exact lt_of_cell (hv 0 ss[0] (List.getElem?_eq_getElem hl))


end Go.Proofs.YtkkildkleleppaaDoor
