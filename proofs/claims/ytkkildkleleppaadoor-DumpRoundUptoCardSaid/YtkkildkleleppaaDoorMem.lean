/- Words for memory, for all texts of this seat: what a call leaves, rows of values, rows of things told. -/
import Derived.WalkKit
import Derived.WalkSpells
import Derived.WalkLawsBesides
import Derived.Lib.Hide
import Derived.Lib.Strings
namespace Go.Proofs.YtkkildkleleppaaDoor
open Go.RowKit

/-- A call returns v, and all that was there is as it was. -/
def Ret (w : World) (v : Value) (e : Ending) (w' : World) : Prop := e = .returned v ∧ Below w.heap.size w w'

theorem bcell {W w1 : World} (hb : Below W.heap.size W w1) : (∀ b o, b < W.heap.size → w1.cell? ⟨b, o, none⟩ = W.cell? ⟨b, o, none⟩) ∧ (∀ b o, b < W.heap.size → w1.frozen? ⟨b, o, none⟩ = W.frozen? ⟨b, o, none⟩) :=
  ⟨fun b o h => hb.cell (p := ⟨b, o, none⟩) h, fun b o h => hb.frozen (p := ⟨b, o, none⟩) h⟩

theorem lt_of_cell {w : World} {a : Addr} {v : Value} (h : w.cell? a = some v) : a.block < w.heap.size := by
  rcases Nat.lt_or_ge a.block w.heap.size with hlt | hge
  · exact hlt
  · simp [World.cell?, Array.getElem?_eq_none hge] at h

theorem toList_data (s : ByteArray) : s.toList = s.data.toList := ByteArray.toList_eq s

/-- A value, as data: its kind, its number, its text. -/
structure V where
  k : Int
  n : Int
  s : ByteArray
instance : Inhabited V := ⟨⟨0, 0, ByteArray.empty⟩⟩
def V.val (v : V) : Value := .agg #[.int .i64 v.k, .int .i64 v.n, .string v.s]
def V.cells (v : V) : List Value := [.int .i64 v.k, .int .i64 v.n, .string v.s]

/-- The three cells of a value at a place. -/
def VAt (w : World) (b o : Nat) (v : V) : Prop :=
  w.cell? ⟨b, o, none⟩ = some (.int .i64 v.k) ∧ w.cell? ⟨b, o + 1, none⟩ = some (.int .i64 v.n) ∧ w.cell? ⟨b, o + 2, none⟩ = some (.string v.s)

theorem VAt.below {w w' : World} {b o : Nat} {v : V} (h : VAt w b o v) (hb : Below w.heap.size w w') : VAt w' b o v := by
  obtain ⟨h0, h1, h2⟩ := h
  have hl := lt_of_cell h0
  exact ⟨(hb.cell (p := ⟨b, o, none⟩) hl).trans h0, (hb.cell (p := ⟨b, o + 1, none⟩) hl).trans h1, (hb.cell (p := ⟨b, o + 2, none⟩) hl).trans h2⟩

/-- What is told: a text and values. -/
structure T where
  sql : ByteArray
  ps : List V
instance : Inhabited T := ⟨⟨ByteArray.empty, []⟩⟩

/-- A slice's address behind which the values vs lie. -/
def IsVs (w : World) (a : Option Addr) (vs : List V) : Prop :=
  vs = [] ∨ ∃ b o, a = some ⟨b, o, none⟩ ∧ ∀ i v, vs[i]? = some v → VAt w b (o + i * 3) v

theorem IsVs.below {w w' : World} {a : Option Addr} {vs : List V} (h : IsVs w a vs) (hb : Below w.heap.size w w') : IsVs w' a vs := by
  rcases h with h | ⟨b, o, h, hv⟩
  · exact .inl h
  · exact .inr ⟨b, o, h, fun i v hi => (hv i v hi).below hb⟩

theorem IsVs.at_ {w : World} {a : Option Addr} {vs : List V} (h : IsVs w a vs) {k : Nat} (hk : k < vs.length) :
    ∃ b o, a = some ⟨b, o, none⟩ ∧ VAt w b (o + k * 3) vs[k] := by
  rcases h with h | ⟨b, o, h, hv⟩
  · subst h; simp at hk
  · exact ⟨b, o, h, hv k _ (List.getElem?_eq_getElem hk)⟩

/-- The two cells of what is told at a place. -/
def TAt (w : World) (b o : Nat) (t : T) : Prop :=
  w.cell? ⟨b, o, none⟩ = some (.string t.sql) ∧ ∃ pa pc, w.cell? ⟨b, o + 1, none⟩ = some (.slice pa t.ps.length pc) ∧ t.ps.length ≤ pc ∧ IsVs w pa t.ps
theorem TAt.below {w w' : World} {b o : Nat} {t : T} (h : TAt w b o t) (hb : Below w.heap.size w w') : TAt w' b o t := by
  obtain ⟨h0, pa, pc, h1, h2, h3⟩ := h
  exact ⟨(hb.cell (lt_of_cell h0)).trans h0, pa, pc, (hb.cell (lt_of_cell h1)).trans h1, h2, h3.below hb⟩
/-- A slice's address behind which the things told lie. -/
def IsTs (w : World) (a : Option Addr) (ts : List T) : Prop :=
  ts = [] ∨ ∃ b o, a = some ⟨b, o, none⟩ ∧ ∀ i t, ts[i]? = some t → TAt w b (o + i * 2) t
theorem IsTs.below {w w' : World} {a : Option Addr} {ts : List T} (h : IsTs w a ts) (hb : Below w.heap.size w w') : IsTs w' a ts := by
  rcases h with h | ⟨b, o, h, hv⟩
  · exact .inl h
  · exact .inr ⟨b, o, h, fun i v hi => (hv i v hi).below hb⟩
theorem IsTs.at_ {w : World} {a : Option Addr} {ts : List T} (h : IsTs w a ts) {k : Nat} (hk : k < ts.length) :
    ∃ b o, a = some ⟨b, o, none⟩ ∧ TAt w b (o + k * 2) ts[k] := by
  rcases h with h | ⟨b, o, h, hv⟩
  · subst h; simp at hk
  · exact ⟨b, o, h, hv k _ (List.getElem?_eq_getElem hk)⟩

theorem IsVs.nil_ (w : World) (a : Option Addr) : IsVs w a [] := .inl rfl

theorem ret_int {k : IntKind} {a b : Int} (h : a = b) : Ending.returned (.int k a) = .returned (.int k b) := by rw [h]
theorem ret_str {a b : List UInt8} (h : a = b) : Ending.returned (.string ⟨a.toArray⟩) = .returned (.string ⟨b.toArray⟩) := by rw [h]
theorem ret_str2 {a b : List UInt8} {v : Value} (h : a = b) : Ending.returned (.tuple #[.string ⟨a.toArray⟩, v]) = .returned (.tuple #[.string ⟨b.toArray⟩, v]) := by rw [h]

/-- The cells of a block that was laid first. -/
theorem box_cell {w w' : World} {cs : Array Value} {T : TypeId} (hb : Below (w.heap.size + 1) (w.alloc (.cells cs T)) w') (i : Nat) : w'.cell? ⟨w.heap.size, i, none⟩ = cs[i]? :=
  (hb.cell (p := ⟨w.heap.size, i, none⟩) (by simp)).trans (cell_of_row _ w.heap.size i cs T (0, 0) (heap_alloc_new w _))
/-- Below a block that was laid first. -/
theorem box_below {w w' : World} {o : Obj} (hb : Below (w.heap.size + 1) (w.alloc o) w') : Below w.heap.size w w' :=
  ((Below.refl _ _).alloc (Nat.le_refl _) o).trans (hb.mono (by omega))

theorem box_below2 {w w' : World} {o : Obj} (hb : Below (w.alloc o).heap.size (w.alloc o) w') : Below w.heap.size w w' := box_below (hb.mono (by simp))

/-- Bytes as cells. -/
def bcells (l : List UInt8) : List Value := l.map fun b => .int .u8 (b.toNat : Int)
theorem bcells_append (l r : List UInt8) : bcells (l ++ r) = bcells l ++ bcells r := by simp [bcells]
theorem bcells_length (l : List UInt8) : (bcells l).length = l.length := by simp [bcells]
theorem bcells_one (l : List UInt8) : ∀ u ∈ bcells l, u.oneCell' = true := by
  intro u hu
  obtain ⟨b, _, rfl⟩ := List.mem_map.1 hu
  rfl

/-- A row of bytes of the call's own. -/
def OwnB (e : TypeId) (w : World) (B : Nat) (v : Value) (l : List UInt8) : Prop := w.ownsRow B e 1 v l.length (bcells l)

theorem OwnB.nil_ (e : TypeId) (w : World) (B : Nat) : OwnB e w B (.slice none 0 0) [] := World.ownsRow_nil _ _ _ _
theorem OwnB.next {e : TypeId} {w0 w w' : World} {B : Nat} {v : Value} {l : List UInt8} (h : OwnB e w B v l) (hb : Below B w0 w) (hg : w.grownBy w' v.ownBlock) (hB : B ≤ w.heap.size) : Below B w0 w' :=
  hb.grown hg hB fun k hk => (h.lt k hk).1
theorem OwnB.kept {e : TypeId} {w w' : World} {B : Nat} {v : Value} {l : List UInt8} (h : OwnB e w B v l) (hb : Below w.heap.size w w') : OwnB e w' B v l := by
  refine ⟨h.1, ?_⟩
  rcases h.2 with hn | ⟨g, cap, cur, rfl, hbg, hgg, rest⟩
  · exact .inl hn
  · refine .inr ⟨g, cap, cur, rfl, hbg, ?_, rest⟩
    rw [hb.block g (Array.getElem?_eq_some_iff.1 hgg).1]
    exact hgg

theorem grownBy_alloc_trans {w w' : World} {o : Obj} {row : Option Nat} (h : (w.alloc o).grownBy w' row) : w.grownBy w' row :=
  ⟨h.os, h.tape, h.output, Nat.le_trans (by simp) h.size, fun k hk hne => (h.block k (by simp; omega) hne).trans (Below.heap_alloc w o k hk)⟩

/-- The cells of a block that has just been laid. -/
theorem cells_new (w : World) (cs : Array Value) (e : TypeId) (news : List Value) (h : cs.toList = news) :
    ∀ j u, news[j]? = some u → (w.alloc (.cells cs e)).cell? ((⟨w.heap.size, 0, none⟩ : Addr).add j) = some u := by
  intro j u hu
  have hadd : (⟨w.heap.size, 0, none⟩ : Addr).add j = ⟨w.heap.size, j, none⟩ := by unfold Addr.add; split <;> simp_all
  rw [hadd, cell_of_row _ w.heap.size j cs e (0, 0) (heap_alloc_new w _)]
  rw [← h] at hu
  simpa using hu

section
variable {P : Program} {ops : Array Oper} {rest : List Oper} {o : Oper} {a : Act} {Q : Exit → Act → World → Prop}
/-- 'out = append(out, ..)': bytes that stand in a block just laid, onto a row of the call's own. -/
theorem wpList_pushB (wr : World) (e : TypeId) (cs : Array Value) (hgd : o.guard = none) (s x : Operand) (t : TypeId)
    (ho : o.op = .call { callee := .builtin .append, args := #[s, x], argTypes := #[t, t] })
    (B : Nat) (ht : P.underlying t = some (.slice e)) (hinfo : (P.info? e).map (fun i => (i.zero, i.size, i.bytes)) = some (some (.int .u8 0), 1, 1))
    (v : Value) (l : List UInt8) (hs : a.eval s = v) (hown : OwnB e wr B v l) (news : List UInt8) (hcs : cs.toList = bcells news)
    (m c : Nat) (hx : a.eval x = .slice (some ⟨wr.heap.size, 0, none⟩) m c) (hm : news.length = m) (hsz : l.length + m ≤ 1099511627776) (hB : B ≤ wr.heap.size)
    (h : ∀ v' w', OwnB e w' B v' (l ++ news) → wr.grownBy w' v.ownBlock → wpList P ops Q rest (a.put o.dst v') w') : wpList P ops Q (o :: rest) a (wr.alloc (.cells cs e)) := by
  obtain ⟨i, hi, hz0, hz1, hz2⟩ := info_parts hinfo
  refine wpList_append_own _ hgd s x t ho B e i (.int .u8 0) 1 1 ht hi hz0 hz1 hz2 rfl (by decide) v l.length (bcells l) hs (World.ownsRow.alloc hown _) ⟨wr.heap.size, 0, none⟩ m c (bcells news) hx (by rw [bcells_length]; omega)
    (cells_new wr cs e _ hcs) (bcells_one _) (by unfold maxLen; omega) (by omega) (by simp; omega) ?_
  intro v' w' h1 h2 _
  refine h v' w' ?_ (grownBy_alloc_trans h2)
  have e1 : (l ++ news).length = l.length + m := by simp [hm]
  unfold OwnB
  rw [e1, bcells_append]
  exact h1

/-- 'out = append(out, ..)': cells that stand in a block just laid, onto a row of the call's own. -/
theorem wpList_pushR (wr : World) (e : TypeId) (cs : Array Value) (hgd : o.guard = none) (s x : Operand) (t : TypeId)
    (ho : o.op = .call { callee := .builtin .append, args := #[s, x], argTypes := #[t, t] })
    (B : Nat) (z : Value) (size bytes : Nat) (ht : P.underlying t = some (.slice e)) (hinfo : (P.info? e).map (fun i => (i.zero, i.size, i.bytes)) = some (some z, size, bytes)) (hzs : z.cells.size = size) (hsz : 0 < size) (hby : bytes ≤ 1024)
    (v : Value) (n : Nat) (xs : List Value) (hs : a.eval s = v) (hown : wr.ownsRow B e size v n xs) (news : List Value) (hcs : cs.toList = news) (h1 : ∀ u ∈ news, u.oneCell' = true)
    (m c : Nat) (hx : a.eval x = .slice (some ⟨wr.heap.size, 0, none⟩) m c) (hm : news.length = m * size) (hn : n + m ≤ 137438953472) (hB : B ≤ wr.heap.size)
    (h : ∀ v' w', w'.ownsRow B e size v' (n + m) (xs ++ news) → wr.grownBy w' v.ownBlock → wpList P ops Q rest (a.put o.dst v') w') : wpList P ops Q (o :: rest) a (wr.alloc (.cells cs e)) := by
  obtain ⟨i, hi, hz0, hz1, hz2⟩ := info_parts hinfo
  refine wpList_append_own _ hgd s x t ho B e i z size bytes ht hi hz0 hz1 hz2 hzs hsz v n xs hs (World.ownsRow.alloc hown _) ⟨wr.heap.size, 0, none⟩ m c news hx hm
    (cells_new wr cs e _ hcs) h1 (by unfold maxLen; omega) (by have := Nat.mul_le_mul hn hby; omega) (by simp; omega) ?_
  intro v' w' h1 h2 _
  exact h v' w' h1 (grownBy_alloc_trans h2)

theorem own_next {e : TypeId} {w0 w w' : World} {B size n : Nat} {v : Value} {xs : List Value} (h : w.ownsRow B e size v n xs) (hb : Below B w0 w) (hg : w.grownBy w' v.ownBlock) (hB : B ≤ w.heap.size) : Below B w0 w' :=
  hb.grown hg hB fun k hk => (h.lt k hk).1
theorem own_kept {e : TypeId} {w w' : World} {B size n : Nat} {v : Value} {xs : List Value} (h : w.ownsRow B e size v n xs) (hb : Below w.heap.size w w') : w'.ownsRow B e size v n xs := by
  refine ⟨h.1, ?_⟩
  rcases h.2 with hn | ⟨g, cap, cur, rfl, hbg, hgg, rest⟩
  · exact .inl hn
  · refine .inr ⟨g, cap, cur, rfl, hbg, ?_, rest⟩
    rw [hb.block g (Array.getElem?_eq_some_iff.1 hgg).1]
    exact hgg
/-- The shape of a row of the call's own. -/
theorem own_form {e : TypeId} {w : World} {B size n : Nat} {v : Value} {xs : List Value} (h : w.ownsRow B e size v n xs) : ∃ a c, v = .slice a n c ∧ n ≤ c ∧ (∀ (b o : Nat) (sp : Option Nat), a = some ⟨b, o, sp⟩ → B ≤ b ∧ ∃ cs, w.heap[b]? = some (.cells cs e (0, 0))) ∧
    (n = 0 ∨ ∃ b, a = some ⟨b, 0, none⟩ ∧ ∀ j u, xs[j]? = some u → w.cell? ⟨b, j, none⟩ = some u) := by
  rcases h.2 with ⟨rfl, rfl⟩ | ⟨g, cap, cur, rfl, hbg, hgg, hc, _⟩
  · exact ⟨none, 0, rfl, Nat.le_refl _, (by intro b o sp hh; cases hh), .inl rfl⟩
  · refine ⟨_, _, rfl, hc, (by intro b o sp hh; injection hh with hh; injection hh with h1; subst h1; exact ⟨hbg, cur, hgg⟩), .inr ⟨g, rfl, fun j u hu => ?_⟩⟩
    have := World.ownsRow.cells h (g := g) rfl j u hu
    have hadd : (⟨g, 0, none⟩ : Addr).add j = ⟨g, j, none⟩ := by unfold Addr.add; split <;> simp_all
    rw [hadd] at this
    exact this

/-- 'string(out)' of a row of the call's own. -/
theorem run_convert_own (w : World) (src e dst : TypeId) (hs : P.underlying src = some (.slice e)) (he : P.underlying e = some (.int .u8)) (hd : P.underlying dst = some .string)
    (B : Nat) (v : Value) (l : List UInt8) (h : OwnB e w B v l) : (convert src dst v).run P w = .ok (.string ⟨l.toArray⟩) w := by
  rcases h.2 with ⟨rfl, hn⟩ | ⟨g, cap, cur, rfl, hb, hg, hcap, hm, hc, ht⟩
  · have : l = [] := List.eq_nil_of_length_eq_zero hn
    subst this
    rw [run_convert_bytes_nil (P := P) w src e hs he 0 0 dst hd]
    rfl
  · refine run_convert_bytes_back w src dst e _ cap l hs he hd fun j hj => ?_
    have := World.ownsRow.cells h (g := g) rfl j (.int .u8 (l[j].toNat : Int)) (by simp [bcells, List.getElem?_eq_getElem hj])
    exact this
end

end Go.Proofs.YtkkildkleleppaaDoor
