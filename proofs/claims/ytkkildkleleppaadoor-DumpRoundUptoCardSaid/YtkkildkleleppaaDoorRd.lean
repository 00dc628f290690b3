/- The reader of dumps: need, next, must. -/
import Derived.Test.YtkkildkleleppaaDoorRead
import Derived.StillTailTactics
namespace Go.Proofs.YtkkildkleleppaaDoor
open Go.RowKit

theorem below_drawn {B : Nat} {w : World} (n : Nat) : Below B w (w.drewN n) := ⟨rfl, rfl, rfl, Nat.le_refl _, fun _ _ => rfl⟩

/-- The reader lies in block b: text s, place k. -/
def IsR (w : World) (b : Nat) (s : ByteArray) (k : Nat) : Prop :=
  w.cell? ⟨b, 0, none⟩ = some (.string s) ∧ w.cell? ⟨b, 1, none⟩ = some (.int .i64 k) ∧ w.frozen? ⟨b, 1, none⟩ = false
/-- Only block b has turned. -/
def Moved (b : Nat) (w w' : World) : Prop := w.grownBy w' (some b)

theorem IsR.lt {w : World} {b : Nat} {s : ByteArray} {k : Nat} (h : IsR w b s k) : b < w.heap.size := lt_of_cell h.1
theorem IsR.below {w w' : World} {b : Nat} {s : ByteArray} {k : Nat} (h : IsR w b s k) (hb : Below w.heap.size w w') : IsR w' b s k :=
  ⟨(hb.cell h.lt).trans h.1, (hb.cell h.lt).trans h.2.1, (hb.frozen h.lt).trans h.2.2⟩
theorem IsR.set {w : World} {b : Nat} {s : ByteArray} {k : Nat} (h : IsR w b s k) (k' : Nat) : IsR (w.setCell ⟨b, 1, none⟩ (.int .i64 k')) b s k' := by
  obtain ⟨h0, h1, h2⟩ := h
  refine ⟨?_, ?_, ?_⟩ <;> simp [go_sem, h0, h1, h2]
theorem Moved.refl (b : Nat) (w : World) : Moved b w w := ⟨rfl, rfl, rfl, Nat.le_refl _, fun _ _ _ => rfl⟩
theorem Moved.of_below {b : Nat} {w w' : World} (hb : Below w.heap.size w w') : Moved b w w' := ⟨hb.os, hb.tape, hb.output, hb.size, fun k hk _ => hb.block k hk⟩
theorem Moved.trans {b : Nat} {w w' w'' : World} (h : Moved b w w') (h' : Moved b w' w'') : Moved b w w'' :=
  ⟨h'.os.trans h.os, h'.tape.trans h.tape, h'.output.trans h.output, Nat.le_trans h.size h'.size, fun k hk hne => (h'.block k (Nat.lt_of_lt_of_le hk h.size) hne).trans (h.block k hk hne)⟩
theorem Moved.set (b i : Nat) (w : World) (v : Value) : Moved b w (w.setCell ⟨b, i, none⟩ v) :=
  ⟨rfl, rfl, rfl, by simp [World.setCell], fun k hk hne => Below.heap_setCell _ _ _ _ (by intro e; exact hne (by simp [e]))⟩
theorem Moved.size {b : Nat} {w w' : World} (h : Moved b w w') : w.heap.size ≤ w'.heap.size := World.grownBy.size h

def wrongP : List PanicEntry := [{ v := .iface 56 (.agg #[]), recovered := false }]
/-- Is the byte c at place k? -/
def nx (l : List UInt8) (k : Nat) (c : UInt8) : Bool := l[k]? == some c
theorem nx_at (s : ByteArray) (k : Nat) (c : UInt8) (h : k < s.size) : nx s.data.toList k c = ((s[k].toNat : Int) == (c.toNat : Int)) := by
  unfold nx
  rw [List.getElem?_eq_getElem (by simpa using h), u8_beq]
  rfl
theorem nx_end (s : ByteArray) (k : Nat) (c : UInt8) (h : ¬ k < s.size) : nx s.data.toList k c = false := by
  unfold nx
  rw [List.getElem?_eq_none (by simp; omega)]
  rfl

theorem need_ok (w : World) : Calls Tryd.prog 30 #[.bool true] w fun e w' => e = .returned (.tuple #[]) ∧ w' = w := by
  go_enter Tryd.func30, Tryd.ntmps30
  go_wp2
  go_returns
  exact ⟨rfl, rfl⟩
theorem need_no (w : World) : Calls Tryd.prog 30 #[.bool false] w fun e w' => e = .panicked wrongP ∧ w' = w := by
  go_enter Tryd.func30, Tryd.ntmps30
  go_wp2
  exact ⟨rfl, rfl, rfl⟩

theorem next_any (b : Nat) (s : ByteArray) (k : Nat) (c : UInt8) (w : World) (h : IsR w b s k) :
    Calls Tryd.prog 27 #[.pointer (some ⟨b, 0, none⟩), .int .u8 (c.toNat : Int)] w (Ret w (.bool (nx s.data.toList k c))) := by
  obtain ⟨q0, q1, -⟩ := h
  by_cases hk : k < s.size
  · rw [nx_at s k c hk]
    have hi0 : (0 : Int) ≤ (k : Int) := Int.natCast_nonneg _
    have hi1 : (k : Int) < (s.size : Int) := by omega
    go_enter Tryd.func27, Tryd.ntmps27
    go_wp2_with fail
    go_quiet (fail)
    go_wp2
    go_ret
    exact ⟨rfl, below_drawn _⟩
  · rw [nx_end s k c hk]
    have hi : decide ((k : Int) < (s.size : Int)) = false := by simp; omega
    go_enter Tryd.func27, Tryd.ntmps27
    go_wp2_with fail
    go_quiet (fail)
    go_wp2
    go_ret
    exact ⟨rfl, below_drawn _⟩

/-- A method of the reader is through: what it returns, the place behind; none: it panics. -/
def RQ (b : Nat) (s : ByteArray) (w : World) (o : Option (Value × Nat)) (e : Ending) (w' : World) : Prop :=
  match o with
  | some (v, k) => e = .returned v ∧ IsR w' b s k ∧ Moved b w w'
  | none => e = .panicked wrongP ∧ Moved b w w'

def mustS (l : List UInt8) (k : Nat) (c : UInt8) : Option (Value × Nat) := if nx l k c then some (.tuple #[], k + 1) else none

theorem must_any (b : Nat) (s : ByteArray) (k : Nat) (c : UInt8) (hk : k ≤ 1000000000000) (w : World) (h : IsR w b s k) :
    Calls Tryd.prog 29 #[.pointer (some ⟨b, 0, none⟩), .int .u8 (c.toNat : Int)] w (RQ b s w (mustS s.data.toList k c)) := by
  have N := next_any b s k c w h
  unfold mustS
  cases hn : nx s.data.toList k c with
  | true =>
    rw [hn] at N
    have HR := Lib.hid h
    clear h hn
    go_enter Tryd.func29, Tryd.ntmps29
    go_wp2_with (first
      | (go_at_call 27; refine N.mono ?_; rintro e w1 ⟨rfl, hb1⟩)
      | (go_at_call 30; refine (need_ok _).mono ?_; rintro e w2 ⟨rfl, rfl⟩; have HR2 := Lib.hid (HR.out.below hb1); have q0 := HR2.out.1; have q1 := HR2.out.2.1; have q2 := HR2.out.2.2; have HM := Lib.hid (Moved.of_below (b := b) hb1)))
    go_returns
    exact ⟨rfl, HR2.out.set (k + 1), HM.out.trans (Moved.set _ _ _ _)⟩
  | false =>
    rw [hn] at N
    clear h hn
    go_enter Tryd.func29, Tryd.ntmps29
    go_wp2_with (first
      | (go_at_call 27; refine N.mono ?_; rintro e w1 ⟨rfl, hb1⟩)
      | (go_at_call 30; refine (need_no _).mono ?_; rintro e w2 ⟨rfl, rfl⟩))
    exact ⟨rfl, rfl, Moved.of_below hb1⟩
end Go.Proofs.YtkkildkleleppaaDoor
