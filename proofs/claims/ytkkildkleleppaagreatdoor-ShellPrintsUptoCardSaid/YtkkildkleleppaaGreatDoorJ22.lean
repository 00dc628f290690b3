/- dump.Read. Commands in memory. -/
import Derived.Test.YtkkildkleleppaaGreatDoorJ20
import Derived.Test.YtkkildkleleppaaGreatDoorJ12
import Derived.Defers
import Derived.Recover
import Derived.Laws.Pointers
import Derived.Test.YtkkildkleleppaaGreatDoorJ17
namespace Go.Proofs.YtkkildkleleppaaGreatDoor
open Go.RowKit


set_option maxRecDepth 100000 in
set_option maxHeartbeats 1000000 in
theorem catch_wrong (p q : Nat) (x y : Value) (w : World) (hp : w.cell? ⟨p, 0, none⟩ = some x) (hfp : w.frozen? ⟨p, 0, none⟩ = false) (hq : w.cell? ⟨q, 0, none⟩ = some y) (hfq : w.frozen? ⟨q, 0, none⟩ = false) (hpq : ¬ p = q) :
    CallsD Tryz.prog 34 #[.pointer (some ⟨p, 0, none⟩), .pointer (some ⟨q, 0, none⟩)] (.panicking wrongP) w fun e u' w' =>
      e = .returned (.tuple #[]) ∧ u' = .panicking [{ v := .iface 90 (.agg #[]), recovered := true }] ∧ w' = ((w.setCell ⟨p, 0, none⟩ (.slice none 0 0)).setCell ⟨q, 0, none⟩ (.int .i64 410)).alloc (.cells #[] 90) := by
  have hbp : p < w.heap.size := lt_of_cell hp
  have hbq : q < w.heap.size := lt_of_cell hq
  have hp2 : ∀ o, (w.alloc o).cell? ⟨p, 0, none⟩ = some x := fun o => ((below_alloc w o).cell (p := ⟨p, 0, none⟩) hbp).trans hp
  have hq2 : ∀ o, (w.alloc o).cell? ⟨q, 0, none⟩ = some y := fun o => ((below_alloc w o).cell (p := ⟨q, 0, none⟩) hbq).trans hq
  have hfp2 : ∀ o, (w.alloc o).frozen? ⟨p, 0, none⟩ = false := fun o => ((below_alloc w o).frozen (p := ⟨p, 0, none⟩) hbp).trans hfp
  have hfq2 : ∀ o, (w.alloc o).frozen? ⟨q, 0, none⟩ = false := fun o => ((below_alloc w o).frozen (p := ⟨q, 0, none⟩) hbq).trans hfq
  have hnot : ∀ (x : Bool) (w : World), (Op.unary .not (.bool x)).run Tryz.prog w = .ok (.bool (!x)) w := fun _ _ => rfl
  have hta : ∀ w : World, (Instr.typeAssert (.iface 90 (.agg #[])) 20 90 true).run Tryz.prog w = .ok (.tuple #[.agg #[], .bool true]) w := fun _ => by kernel_rfl
  refine callsD_of_wpS Tryz.func34 rfl fun c₀ cs hu => ?_
  apply wpS_seq
  apply wpS_region
  simp [wpOpsS, go_sem, recoverD, hu, Tryz.ntmps34, Exit.thenS, wrongP]
  refine wpS_of_wp ?_
  generalize hQ : (fun (e : Exit) (a' : Act) (w' : World) => bodyPostS _ _ _ _ _ e a' _ w') = Q
  have HQ := Lib.hid hQ
  clear hQ hu
  change Code.wp _ _ Q { tmps := #[.pointer (some ⟨p, 0, none⟩), .pointer (some ⟨q, 0, none⟩), .iface 90 (.agg #[]), undef, undef, .iface 90 (.agg #[]), undef, undef, undef, undef, undef, undef, undef, undef, undef, undef], defers := [] } w
  go_wp2
  rw [← HQ.out]
  simp [bodyPostS, results, Tryz.results34, go_sem]

set_option maxRecDepth 100000 in
set_option maxHeartbeats 1000000 in
theorem catch_idle (p q : Addr) (w : World) :
    CallsD Tryz.prog 34 #[.pointer (some p), .pointer (some q)] .returning w fun e u' w' => e = .returned (.tuple #[]) ∧ u' = .returning ∧ w' = w := by
  refine callsD_of_wpS Tryz.func34 rfl fun c₀ cs hu => ?_
  apply wpS_seq
  apply wpS_region
  simp [wpOpsS, go_sem, recoverD, hu, Tryz.ntmps34, Exit.thenS]
  refine wpS_of_wp ?_
  generalize hQ : (fun (e : Exit) (a' : Act) (w' : World) => bodyPostS _ _ _ _ _ e a' _ w') = Q
  have HQ := Lib.hid hQ
  have HU := Lib.hid hu
  clear hQ hu
  change Code.wp _ _ Q { tmps := #[.pointer (some p), .pointer (some q), .nilIface, undef, undef, .nilIface, undef, undef, undef, undef, undef, undef, undef, undef, undef, undef], defers := [] } w
  go_wp2
  rw [← HQ.out]
  have hu := HU.out
  cases c₀
  simp_all [bodyPostS, results, Tryz.results34, go_sem]

/-- What is told of a text; none of it: where the first part that is none begins. -/
def DReadO (o : Except Nat (List T)) (w : World) (e : Ending) (w' : World) : Prop :=
  match o with
  | .ok ts => ∃ v xs, e = .returned (.tuple #[v, .int .i64 0, .int .i64 0]) ∧ w'.ownsRow w.heap.size 71 2 v ts.length xs ∧ TRow w' w.heap.size 80 xs ts ∧ Below w.heap.size w w'
  | .error k => e = .returned (.tuple #[.slice none 0 0, .int .i64 k, .int .i64 410]) ∧ Below w.heap.size w w'
def DRead (l : List UInt8) (w : World) : Ending → World → Prop := DReadO (readS (l.length + 1) l 0) w
theorem DReadO.no {o : Except Nat (List T)} {k : Nat} {w w' : World} (h : o = .error k) (hb : Below w.heap.size w w') : DReadO o w (.returned (.tuple #[.slice none 0 0, .int .i64 k, .int .i64 410])) w' := by subst h; exact ⟨rfl, hb⟩
theorem DReadO.yes {o : Except Nat (List T)} {ts : List T} {v : Value} {xs : List Value} {w w' : World} (h : o = .ok ts) (ho : w'.ownsRow w.heap.size 71 2 v ts.length xs) (ht : TRow w' w.heap.size 80 xs ts) (hb : Below w.heap.size w w') : DReadO o w (.returned (.tuple #[v, .int .i64 0, .int .i64 0])) w' := by subst h; exact ⟨v, xs, rfl, ho, ht, hb⟩

theorem TRow.moved {w w' : World} {B b : Nat} {e : TypeId} {xs : List Value} {ts : List T} (h : TRow w B e xs ts) (hm : Moved b w w') (hb : b < B) : TRow w' B e xs ts := by
  refine ⟨h.1, h.2.1, fun i t hi => ?_⟩
  obtain ⟨h0, u, hu, hown⟩ := h.2.2 i t hi
  exact ⟨h0, u, hu, own_moved hown hm (own_far hown hb)⟩
theorem TRow.mono {w : World} {B B' : Nat} {e : TypeId} {xs : List Value} {ts : List T} (h : TRow w B e xs ts) (hB : B' ≤ B) : TRow w B' e xs ts := by
  refine ⟨h.1, h.2.1, fun i t hi => ?_⟩
  obtain ⟨h0, u, hu, hown⟩ := h.2.2 i t hi
  exact ⟨h0, u, hu, own_mono hB hown⟩

/-- The loop over the parts: memory. The result's box, the error's and the reader lie behind what was there. -/
structure DM (s : ByteArray) (w wr : World) (k : Nat) (ts : List T) (v : Value) (xs : List Value) : Prop where
  rd : IsR wr (w.heap.size + 2) s k
  bl : Below w.heap.size w wr
  ob : wr.heap[w.heap.size]? = some (.cells #[v] 22 (0, 0))
  eb : wr.heap[w.heap.size + 1]? = some (.cells #[.int .i64 0] 23 (0, 0))
  own : wr.ownsRow (w.heap.size + 3) 71 2 v ts.length xs
  tr : TRow wr (w.heap.size + 3) 80 xs ts
  sz : w.heap.size + 3 ≤ wr.heap.size
section
variable {s : ByteArray} {w wr wr' : World} {k k' : Nat} {ts : List T} {v v' : Value} {xs : List Value}
theorem DM.cells (h : DM s w wr k ts v xs) : wr.cell? ⟨w.heap.size, 0, none⟩ = some v ∧ wr.frozen? ⟨w.heap.size, 0, none⟩ = false ∧ wr.cell? ⟨w.heap.size + 1, 0, none⟩ = some (.int .i64 0) ∧ wr.frozen? ⟨w.heap.size + 1, 0, none⟩ = false :=
  ⟨cell_of_row wr _ 0 _ _ _ h.ob, frozen_of_row wr _ 0 _ _ h.ob, cell_of_row wr _ 0 _ _ _ h.eb, frozen_of_row wr _ 0 _ _ h.eb⟩
theorem DM.step (h : DM s w wr k ts v xs) (hr : IsR wr' (w.heap.size + 2) s k') (hm : Moved (w.heap.size + 2) wr wr') : DM s w wr' k' ts v xs :=
  ⟨hr, below_moved h.bl hm (by omega) (by have := h.sz; omega), (hm.block _ (by have := h.sz; omega) (by intro e; injection e with e; omega)).trans h.ob, (hm.block _ (by have := h.sz; omega) (by intro e; injection e with e; omega)).trans h.eb,
    own_moved h.own hm (own_far h.own (by omega)), h.tr.moved hm (by omega), Nat.le_trans h.sz hm.size⟩
theorem DM.drew (h : DM s w wr k ts v xs) : DM s w wr.drew k ts v xs := h.step (h.rd.drewN 1) ((Moved.refl _ _).drew)
theorem DM.below (h : DM s w wr k ts v xs) (hb : Below wr.heap.size wr wr') : DM s w wr' k ts v xs := h.step (h.rd.below hb) (Moved.of_below hb)
theorem DM.alloc (h : DM s w wr k ts v xs) (o : Obj) : DM s w (wr.alloc o) k ts v xs := h.below (below_alloc _ _)
theorem DM.thrown {w5 : World} (h : DM s w wr k ts v xs) (hm : Moved (w.heap.size + 2) wr w5) : w5.cell? ⟨w.heap.size, 0, none⟩ = some v ∧ w5.frozen? ⟨w.heap.size, 0, none⟩ = false ∧ w5.cell? ⟨w.heap.size + 1, 0, none⟩ = some (.int .i64 0) ∧ w5.frozen? ⟨w.heap.size + 1, 0, none⟩ = false ∧ Below w.heap.size w w5 ∧ w.heap.size + 3 ≤ w5.heap.size := by
  have hob : w5.heap[w.heap.size]? = some (.cells #[v] 22 (0, 0)) := (hm.block _ (by have := h.sz; omega) (by intro e; injection e with e; omega)).trans h.ob
  have heb : w5.heap[w.heap.size + 1]? = some (.cells #[.int .i64 0] 23 (0, 0)) := (hm.block _ (by have := h.sz; omega) (by intro e; injection e with e; omega)).trans h.eb
  exact ⟨cell_of_row w5 _ 0 _ _ _ hob, frozen_of_row w5 _ 0 _ _ hob, cell_of_row w5 _ 0 _ _ _ heb, frozen_of_row w5 _ 0 _ _ heb, below_moved h.bl hm (by omega) (by have := h.sz; omega), Nat.le_trans h.sz hm.size⟩
theorem DM.push (h : DM s w wr k ts v xs) (t : T) (pv : Value) (ht : wr.ownsRow (w.heap.size + 3) 80 3 pv t.ps.length (vcells t.ps))
    (ho : wr'.ownsRow (w.heap.size + 3) 71 2 v' (ts.length + 1) (xs ++ [.string t.sql, pv])) (hg : wr.grownBy wr' v.ownBlock) :
    DM s w (wr'.setCell ⟨w.heap.size, 0, none⟩ v') k (ts ++ [t]) v' (xs ++ [.string t.sql, pv]) := by
  have hsz := h.sz
  have hfar : ∀ g, g < w.heap.size + 3 → some g ≠ v.ownBlock := by
    intro g hlt e
    have := (h.own.lt g e.symm).1
    omega
  have hob : wr'.heap[w.heap.size]? = some (.cells #[v] 22 (0, 0)) := (hg.block _ (by omega) (hfar _ (by omega))).trans h.ob
  have heb : wr'.heap[w.heap.size + 1]? = some (.cells #[.int .i64 0] 23 (0, 0)) := (hg.block _ (by omega) (hfar _ (by omega))).trans h.eb
  have hset : Moved w.heap.size wr' (wr'.setCell ⟨w.heap.size, 0, none⟩ v') := Moved.set _ _ _ _
  refine ⟨(h.rd.grownR h.own hg (by omega)).setO (by simp) _, ((h.bl.grown hg (by omega) (fun g e => by have := (h.own.lt g e).1; omega))).setCell (Nat.le_refl _) _, heap_setCell_same wr' _ 0 _ _ v' hob, (heap_setCell_other wr' _ _ v' (by simp)).trans heb, ?_, ?_, by have := hg.size; simp [World.setCell]; omega⟩
  · have e : (ts ++ [t]).length = ts.length + 1 := by simp
    rw [e]
    exact own_moved ho hset (own_far ho (by omega))
  · exact ((h.tr.push t pv (own_slice ht) ht).kept h.own (by decide) hg).moved hset (by omega)
end

/-- The loop over the parts: what has been read. -/
def DE (l : List UInt8) (k : Nat) (ts : List T) : Prop := ts.length ≤ k ∧ readS (l.length + 1) l 0 = match readS (l.length + 1 - ts.length) l k with | .error e => .error e | .ok us => .ok (ts ++ us)
theorem DE.fuel {l : List UInt8} {k : Nat} {ts : List T} (h : DE l k ts) (hk : k ≤ l.length) : ∃ n, l.length + 1 - ts.length = n + 1 := ⟨l.length - ts.length, by have := h.1; omega⟩
theorem DE.none {l : List UInt8} {k : Nat} {ts : List T} (h : DE l k ts) (hk : k < l.length) (hp : partS l k = none) : readS (l.length + 1) l 0 = .error k := by
  obtain ⟨n, hf⟩ := h.fuel (Nat.le_of_lt hk)
  rw [h.2, hf, readS_none hk hp]
theorem DE.step {l : List UInt8} {k j : Nat} {ts : List T} {t : T} (h : DE l k ts) (hk : k < l.length) (hp : partS l k = some (t, j)) : DE l j (ts ++ [t]) := by
  obtain ⟨n, hf⟩ := h.fuel (Nat.le_of_lt hk)
  obtain ⟨-, -, -, p4, -⟩ := partS_sound hp
  have := part_pos t
  have hl := h.1
  refine ⟨by simp; omega, ?_⟩
  rw [h.2, hf, readS_some hk hp]
  have e : l.length + 1 - (ts ++ [t]).length = n := by simp; omega
  rw [e]
  cases readS n l j with
  | error e => rfl
  | ok us => simp
theorem DE.done {l : List UInt8} {k : Nat} {ts : List T} (h : DE l k ts) (hk : ¬ k < l.length) (hk2 : k ≤ l.length) : readS (l.length + 1) l 0 = .ok ts := by
  obtain ⟨n, hf⟩ := h.fuel hk2
  rw [h.2, hf, readS_end hk]; simp

theorem caught (w5 : World) (h : Nat) {x y : Value} (c0 : w5.cell? ⟨h, 0, none⟩ = some x) (c1 : w5.cell? ⟨h + 1, 0, none⟩ = some y) (a b : Value) (o : Obj) :
    (((w5.setCell ⟨h, 0, none⟩ a).setCell ⟨h + 1, 0, none⟩ b).alloc o).cell? ⟨h, 0, none⟩ = some a ∧ (((w5.setCell ⟨h, 0, none⟩ a).setCell ⟨h + 1, 0, none⟩ b).alloc o).cell? ⟨h + 1, 0, none⟩ = some b := by
  have k0 : ((w5.setCell ⟨h, 0, none⟩ a).setCell ⟨h + 1, 0, none⟩ b).cell? ⟨h, 0, none⟩ = some a := by simp [go_sem, c0]
  have k1 : ((w5.setCell ⟨h, 0, none⟩ a).setCell ⟨h + 1, 0, none⟩ b).cell? ⟨h + 1, 0, none⟩ = some b := by simp [go_sem, c1]
  exact ⟨((below_alloc _ o).cell (lt_of_cell k0)).trans k0, ((below_alloc _ o).cell (lt_of_cell k1)).trans k1⟩

set_option maxRecDepth 100000 in
set_option maxHeartbeats 2000000 in
theorem dread_any (s : ByteArray) (hs : s.size ≤ 100000000) (w : World) (hE : Env w) : Calls Tryz.prog 13 #[.string s] w (DRead s.data.toList w) := by
  have hmf : ∀ (fn : Fn) (first cap : Array Value) (w : World), (Instr.makeFunc fn first cap).run Tryz.prog w = .ok (.func fn first cap) w := fun _ _ _ _ => rfl
  unfold DRead
  have HE0 : Hid (DE s.data.toList 0 []) := Lib.hid ⟨by simp, by simp only [List.length_nil, Nat.sub_zero, List.nil_append]; cases readS (s.data.toList.length + 1) s.data.toList 0 <;> rfl⟩
  generalize ho : readS (s.data.toList.length + 1) s.data.toList 0 = o
  have HO := Lib.hid ho
  clear ho
  go_enter_defers Tryz.func13, Tryz.ntmps13
  go_wp2_with fail
  have D0 : DM s w (((w.alloc (.cells #[.slice none 0 0] 22)).alloc (.cells #[.int .i64 0] 23)).alloc (.cells #[.string s, .int .i64 0] 88)) 0 [] (.slice none 0 0) [] := by
    refine ⟨⟨?_, ?_, ?_⟩, ?_, ?_, ?_, World.ownsRow_nil _ _ _ _, TRow.nil_ _ _ _, by simp⟩
    · simp [go_sem]
    · simp [go_sem]
    · simp [go_sem]
    · exact (((Below.refl _ _).alloc (Nat.le_refl _) _).alloc (by simp) _).alloc (by simp; omega) _
    · exact (Below.heap_alloc _ _ _ (by simp; omega)).trans ((Below.heap_alloc _ _ _ (by simp)).trans (heap_alloc_new w _))
    · have h1 := heap_alloc_new (w.alloc (.cells #[.slice none 0 0] 22)) (.cells #[.int .i64 0] 23)
      rw [show (w.alloc (.cells #[.slice none 0 0] 22)).heap.size = w.heap.size + 1 by simp] at h1
      exact (Below.heap_alloc _ _ _ (by simp)).trans h1
  have HD0 := Lib.hid D0
  clear D0
  go_loopw [3] (fun a wr => ∃ (n k : Nat) (ts : List T) (v : Value) (xs : List Value), a = .int .i64 n ∧ k ≤ s.size ∧ Hid (DM s w wr k ts v xs) ∧ Hid (DE s.data.toList k ts)) (fun _ wr => s.size - (match wr.cell? ⟨w.heap.size + 1 + 1, 1, none⟩ with | some v => (intOf v).toNat | none => 0))
  case atStart => exact ⟨0, 0, [], _, [], rfl, by omega, HD0, HE0⟩
  case round =>
    obtain ⟨n, k, ts, v, xs, rfl, hk, H, HE⟩ := hrel
    have q0 : wr.cell? ⟨w.heap.size + 1 + 1, 0, none⟩ = some (.string s) := H.out.rd.1
    have q1 : wr.cell? ⟨w.heap.size + 1 + 1, 1, none⟩ = some (.int .i64 k) := H.out.rd.2.1
    obtain ⟨b0, b1, b2, b3⟩ := H.out.cells
    have i0 : (0 : Int) ≤ (k : Int) := Int.natCast_nonneg _
    have i1 : (k : Int) ≤ 100000000 := by omega
    have hsz := H.out.sz
    by_cases hlt : k < s.size
    · have P := fun w' h he => part_any (w.heap.size + 1 + 1) s k hs w' h (Nat.le_of_lt hlt) he
      have hd4 := fun w' (hb : Below w.heap.size w w') => (⟨w, hE, hb, by omega⟩ : EnvB (w.heap.size + 1 + 1) w')
      have hP4 := P _ H.out.drew.rd (hd4 _ H.out.drew.bl)
      cases hp : partS s.data.toList k with
      | none =>
        rw [hp] at hP4
        have HP4 := Lib.hid hP4
        have HN := Lib.hid (HO.out.symm.trans (HE.out.none (by simpa using hlt) hp))
        clear P hd4 hP4 hp
        go_wp2_with fail
        refine wp_region_any (by kernel_rfl) ?_
        change wpAny _ _ _ _ _ _ _ (World.drew _)
        refine wpAny_ready (rs := [0, 1]) (by kernel_rfl) (by simp) ?_
        refine AllReady.cons rfl (fun K hK => ?_) ?_
        · go_simp
          refine hK _ _ ?_
          clear hK K
          refine wpAny_ready (rs := [1]) (by kernel_rfl) (by simp) ?_
          refine AllReady.cons rfl (fun K hK => ?_) AllReady.nil
          go_simp
          refine hK _ _ ?_
          clear hK K
          refine wpAny_ready (rs := [2]) (by kernel_rfl) (by simp) ?_
          refine AllReady.cons rfl (fun K hK => ?_) AllReady.nil
          go_simp
          refine HP4.out.mono ?_
          rintro e w5 ⟨rfl, hm5⟩
          obtain ⟨c0, f0, c1, f1, hb5, hz5⟩ := H.out.drew.thrown hm5
          refine leaves_cons (f := 34) (args := #[.pointer (some ⟨w.heap.size, 0, none⟩), .pointer (some ⟨w.heap.size + 1, 0, none⟩)]) (by simp) (by simp [go_sem]) ?_
          refine (catch_wrong _ _ _ _ w5 c0 f0 c1 f1 (by omega)).mono ?_
          rintro e u' w6 ⟨rfl, rfl, rfl⟩
          obtain ⟨g0, g1⟩ := caught w5 w.heap.size c0 c1 (.slice none 0 0) (.int .i64 410) (.cells #[] 90)
          simp [Leaves, settle, results, Tryz.results13, go_sem, g0, g1]
          exact DReadO.no HN.out (((hb5.setCell (Nat.le_refl _) _).setCell (by simp) _).alloc (by simp [World.setCell]; omega) _)
        · refine AllReady.cons rfl (fun K hK => ?_) AllReady.nil
          go_simp
          refine hK _ _ ?_
          clear hK K
          refine wpAny_ready (rs := [0, 2]) (by kernel_rfl) (by simp) ?_
          refine AllReady.cons rfl (fun K hK => ?_) (AllReady.cons rfl (fun K hK => ?_) AllReady.nil)
          rotate_left
          go_simp
          refine HP4.out.mono ?_
          rintro e w5 ⟨rfl, hm5⟩
          obtain ⟨c0, f0, c1, f1, hb5, hz5⟩ := H.out.drew.thrown hm5
          refine leaves_cons (f := 34) (args := #[.pointer (some ⟨w.heap.size, 0, none⟩), .pointer (some ⟨w.heap.size + 1, 0, none⟩)]) (by simp) (by simp [go_sem]) ?_
          refine (catch_wrong _ _ _ _ w5 c0 f0 c1 f1 (by omega)).mono ?_
          rintro e u' w6 ⟨rfl, rfl, rfl⟩
          obtain ⟨g0, g1⟩ := caught w5 w.heap.size c0 c1 (.slice none 0 0) (.int .i64 410) (.cells #[] 90)
          simp [Leaves, settle, results, Tryz.results13, go_sem, g0, g1]
          exact DReadO.no HN.out (((hb5.setCell (Nat.le_refl _) _).setCell (by simp) _).alloc (by simp [World.setCell]; omega) _)
          go_simp
          refine hK _ _ ?_
          clear hK K
          refine wpAny_ready (rs := [2]) (by kernel_rfl) (by simp) ?_
          refine AllReady.cons rfl (fun K hK => ?_) AllReady.nil
          go_simp
          refine HP4.out.mono ?_
          rintro e w5 ⟨rfl, hm5⟩
          obtain ⟨c0, f0, c1, f1, hb5, hz5⟩ := H.out.drew.thrown hm5
          refine leaves_cons (f := 34) (args := #[.pointer (some ⟨w.heap.size, 0, none⟩), .pointer (some ⟨w.heap.size + 1, 0, none⟩)]) (by simp) (by simp [go_sem]) ?_
          refine (catch_wrong _ _ _ _ w5 c0 f0 c1 f1 (by omega)).mono ?_
          rintro e u' w6 ⟨rfl, rfl, rfl⟩
          obtain ⟨g0, g1⟩ := caught w5 w.heap.size c0 c1 (.slice none 0 0) (.int .i64 410) (.cells #[] 90)
          simp [Leaves, settle, results, Tryz.results13, go_sem, g0, g1]
          exact DReadO.no HN.out (((hb5.setCell (Nat.le_refl _) _).setCell (by simp) _).alloc (by simp [World.setCell]; omega) _)
      | some x =>
        obtain ⟨t, j⟩ := x
        obtain ⟨sql, ps⟩ := t
        rw [hp] at hP4
        obtain ⟨p1, p2, p3, p4, p5⟩ := partS_sound hp
        have hj : j ≤ s.size := by simpa using p5
        have hjk : k < j := by have := part_pos (T.mk sql ps); omega
        have HE1 := Lib.hid (HE.out.step (by simpa using hlt) hp)
        have hts : ts.length ≤ 100000000 := by have := HE.out.1; omega
        have HP4 := Lib.hid hP4
        clear P hd4 hP4 hp p1 p2 p3 p4 p5
        go_wp2_with fail
        refine wp_region_noPanic ?_
        go_region_law
          (first
            | (go_simp; go_at_call 35; refine HP4.out.mono ?_; rintro e w5 ⟨pv, rfl, hown5, hr5, hm5⟩; have H5 := Lib.hid (H.out.drew.step hr5 hm5); have hown5 := own_mono (B' := w.heap.size + 3) H.out.drew.sz hown5; obtain ⟨pa, pc, hpv, hx5⟩ := own_form hown5; clear hx5; subst hpv; obtain ⟨r0, r1, r2, r3⟩ := H5.out.cells; have t0 := fun o => (H5.out.alloc o).cells.1; have hz5 := H5.out.sz)
            | (refine step_append_any (w5.alloc (.cells #[.string sql, .slice pa ps.length pc] 71)) rfl (.tmp 21) (.tmp 24) _ (by rfl) (w.heap.size + 3) _ _ 2 40 Tryz.underlying22 infoT rfl (by decide) (by decide) _ ts.length xs (by rfl) (H5.out.alloc _).own _ 1 1 [.string sql, .slice pa ps.length pc] (by rfl) ⟨rfl, fun _ => ⟨_, rfl, cells_new w5 _ _ _ rfl⟩⟩ (by intro u hu; simp only [List.mem_cons, List.not_mem_nil, or_false] at hu; rcases hu with rfl | rfl <;> rfl) (by omega) (by simp; omega) ?_; intro v6 w6 hown6 hg6; obtain ⟨pa6, pc6, he6, hx6⟩ := own_form hown6; clear hx6; subst he6; have H6 := Lib.hid ((H5.out.alloc (.cells #[.string sql, .slice pa ps.length pc] 71)).push ⟨sql, ps⟩ (.slice pa ps.length pc) (own_kept hown5 (below_alloc _ _)) hown6 hg6); have s0 := (cell_of_row w6 w.heap.size 0 _ _ _ ((hg6.block _ (by simp; omega) (fun e => by have := ((H5.out.alloc (.cells #[.string sql, .slice pa ps.length pc] 71)).own.lt _ e.symm).1; omega)).trans (H5.out.alloc (.cells #[.string sql, .slice pa ps.length pc] 71)).ob)); have s1 := (frozen_of_row w6 w.heap.size 0 _ _ ((hg6.block _ (by simp; omega) (fun e => by have := ((H5.out.alloc (.cells #[.string sql, .slice pa ps.length pc] 71)).own.lt _ e.symm).1; omega)).trans (H5.out.alloc (.cells #[.string sql, .slice pa ps.length pc] 71)).ob))))
        all_goals
          refine NoPanic.normal ?_
          go_roundw
          case rel => first | exact ⟨k, j, ts ++ [T.mk sql ps], _, _, rfl, hj, H6, HE1⟩ | ((repeat apply Exists.intro); exact ⟨⟨k, j, ts ++ [T.mk sql ps], _, _, rfl, hj, H6, HE1⟩, rfl⟩)
          case measure =>
            have h1 := H6.out.rd.2.1
            rw [h1, q1]; simp [intOf]; omega
    · have HN := Lib.hid (HO.out.symm.trans (HE.out.done (by simpa using hlt) (by simpa using hk)))
      have hi : ¬ (k : Int) < (s.size : Int) := by omega
      obtain ⟨va, vc, he, hx⟩ := own_form H.out.own
      clear hx
      subst he
      go_wp2
      refine leaves_cons (f := 34) (args := #[.pointer (some ⟨w.heap.size, 0, none⟩), .pointer (some ⟨w.heap.size + 1, 0, none⟩)]) (by simp) (by simp [go_sem]) ?_
      refine (catch_idle _ _ _).mono ?_
      rintro e u' w6 ⟨rfl, rfl, rfl⟩
      simp [Leaves, settle, results, Tryz.results13, go_sem, b0, b2]
      have hm1 : Moved w.heap.size wr (wr.setCell ⟨w.heap.size, 0, none⟩ (.slice va ts.length vc)) := Moved.set _ _ _ _
      have hm2 := Moved.set (w.heap.size + 1) 0 (wr.setCell ⟨w.heap.size, 0, none⟩ (.slice va ts.length vc)) (.int .i64 0)
      have h1 := own_moved H.out.own hm1 (own_far H.out.own (by omega))
      have h2 := own_moved h1 hm2 (own_far h1 (by omega))
      exact DReadO.yes HN.out (own_mono (by omega) h2) (TRow.mono ((H.out.tr.moved hm1 (by omega)).moved hm2 (by omega)) (by omega)) ((H.out.bl.setCell (Nat.le_refl _) _).setCell (by simp) _)
end Go.Proofs.YtkkildkleleppaaGreatDoor
namespace Go.Proofs.YtkkildkleleppaaGreatDoor
open Go.RowKit

/-! ### Rows of numbers -/
def jcells (l : List Int) : List Value := l.map fun n => .int .i64 n
theorem jcells_length (l : List Int) : (jcells l).length = l.length := by simp [jcells]
theorem jcells_append (a b : List Int) : jcells (a ++ b) = jcells a ++ jcells b := by simp [jcells]
theorem jcells_at {l : List Int} {i : Nat} {n : Int} (h : l[i]? = some n) : (jcells l)[i]? = some (.int .i64 n) := by simp [jcells, h]
/-- A slice's address behind which the numbers lie. -/
def IsIs (w : World) (a : Option Addr) (l : List Int) : Prop :=
  l = [] ∨ ∃ b o, a = some ⟨b, o, none⟩ ∧ ∀ i n, l[i]? = some n → w.cell? ⟨b, o + i, none⟩ = some (.int .i64 n)
theorem IsIs.below {w w' : World} {a : Option Addr} {l : List Int} (h : IsIs w a l) (hb : Below w.heap.size w w') : IsIs w' a l := by
  rcases h with h | ⟨b, o, h, hv⟩
  · exact .inl h
  · exact .inr ⟨b, o, h, fun i s hi => (hb.cell (lt_of_cell (hv i s hi))).trans (hv i s hi)⟩
theorem IsIs.at_ {w : World} {a : Option Addr} {l : List Int} (h : IsIs w a l) {k : Nat} (hk : k < l.length) : ∃ b o, a = some ⟨b, o, none⟩ ∧ w.cell? ⟨b, o + k, none⟩ = some (.int .i64 l[k]) := by
  rcases h with h | ⟨b, o, h, hv⟩
  · subst h; simp at hk
  · exact ⟨b, o, h, hv k _ (List.getElem?_eq_getElem hk)⟩
theorem own_is {w : World} {B : Nat} {e : TypeId} {a : Option Addr} {n c : Nat} {l : List Int} (h : w.ownsRow B e 1 (.slice a n c) n (jcells l)) : IsIs w a l := by
  obtain ⟨a', c', he, _, _, hc⟩ := own_form h
  injection he with e1 e2 e3
  subst e1
  rcases hc with h0 | ⟨b, hb, hc⟩
  · have hl := h.1
    rw [jcells_length] at hl
    exact .inl (List.eq_nil_of_length_eq_zero (by omega))
  · exact .inr ⟨b, 0, hb, fun i v hi => hc _ _ (by simpa using jcells_at hi)⟩

/-! ### Commands -/
def evV (ek ec es : Int) (sql : ByteArray) (pv : Value) : Value := .agg #[.int .i64 ek, .int .i64 ec, .int .i64 es, .string sql, pv]
def actV (ak ek ec es : Int) (sql : ByteArray) (pv : Value) (n : Int) (log : Bool) (cv : Value) : Value := .agg #[.int .i64 ak, .int .i64 ek, .int .i64 ec, .int .i64 es, .string sql, pv, .int .i64 n, .bool log, cv]
def cmdV (k ak ek ec es : Int) (sql : ByteArray) (pv : Value) (n : Int) (log : Bool) (cv : Value) (conn : Int) (tv : Value) : Value := .agg #[.int .i64 k, .int .i64 ak, .int .i64 ek, .int .i64 ec, .int .i64 es, .string sql, pv, .int .i64 n, .bool log, cv, .int .i64 conn, tv]
def C.val (c : C) (pv cv tv : Value) : Value := cmdV c.k c.ak c.ek c.ec c.es c.sql pv c.n c.log cv c.conn tv
/-- A command's value, what lies behind its slices. -/
def IsC (w : World) (v : Value) (c : C) : Prop := ∃ pa pc ca cc ta tc, v = c.val (.slice pa c.ps.length pc) (.slice ca c.ch.length cc) (.slice ta c.told.length tc) ∧
  c.ps.length ≤ pc ∧ c.ch.length ≤ cc ∧ c.told.length ≤ tc ∧ IsVs w pa c.ps ∧ IsIs w ca c.ch ∧ IsTs w ta c.told
theorem IsC.below {w w' : World} {v : Value} {c : C} (h : IsC w v c) (hb : Below w.heap.size w w') : IsC w' v c := by
  obtain ⟨pa, pc, ca, cc, ta, tc, hv, h1, h2, h3, h4, h5, h6⟩ := h
  exact ⟨pa, pc, ca, cc, ta, tc, hv, h1, h2, h3, h4.below hb, h5.below hb, h6.below hb⟩
/-- A command's value whose rows are the call's own. -/
def OwnC (w : World) (B : Nat) (v : Value) (c : C) : Prop := ∃ pv cv tv xs, v = c.val pv cv tv ∧ w.ownsRow B 80 3 pv c.ps.length (vcells c.ps) ∧ w.ownsRow B 3 1 cv c.ch.length (jcells c.ch) ∧
  w.ownsRow B 71 2 tv c.told.length xs ∧ TRow w B 80 xs c.told
theorem OwnC.is {w : World} {B : Nat} {v : Value} {c : C} (h : OwnC w B v c) : IsC w v c := by
  obtain ⟨pv, cv, tv, xs, rfl, h1, h2, h3, h4⟩ := h
  obtain ⟨pa, pc, rfl, l1, -⟩ := own_form h1
  obtain ⟨ca, cc, rfl, l2, -⟩ := own_form h2
  obtain ⟨ta, tc, rfl, l3, -⟩ := own_form h3
  exact ⟨pa, pc, ca, cc, ta, tc, rfl, l1, l2, l3, own_vs h1, own_is h2, own_ts h3 h4⟩
theorem OwnC.below {w w' : World} {B : Nat} {v : Value} {c : C} (h : OwnC w B v c) (hb : Below w.heap.size w w') : OwnC w' B v c := by
  obtain ⟨pv, cv, tv, xs, hv, h1, h2, h3, h4⟩ := h
  exact ⟨pv, cv, tv, xs, hv, own_kept h1 hb, own_kept h2 hb, own_kept h3 hb, h4.below hb⟩
theorem OwnC.moved {w w' : World} {B b : Nat} {v : Value} {c : C} (h : OwnC w B v c) (hm : Moved b w w') (hb : b < B) : OwnC w' B v c := by
  obtain ⟨pv, cv, tv, xs, hv, h1, h2, h3, h4⟩ := h
  exact ⟨pv, cv, tv, xs, hv, own_moved h1 hm (own_far h1 hb), own_moved h2 hm (own_far h2 hb), own_moved h3 hm (own_far h3 hb), h4.moved hm hb⟩
theorem OwnC.mono {w : World} {B B' : Nat} {v : Value} {c : C} (h : OwnC w B v c) (hB : B' ≤ B) : OwnC w B' v c := by
  obtain ⟨pv, cv, tv, xs, hv, h1, h2, h3, h4⟩ := h
  exact ⟨pv, cv, tv, xs, hv, own_mono hB h1, own_mono hB h2, own_mono hB h3, h4.mono hB⟩

/-! ### What makes a command of an event, of an act -/
theorem act_any (ak ek ec es n : Int) (sql : ByteArray) (pa ca : Option Addr) (pn pc cn cc : Nat) (log : Bool) (w : World) :
    Calls Tryz.prog 96 #[.agg #[.int .i64 ak, .int .i64 ek, .int .i64 ec, .int .i64 es, .string sql, .slice pa pn pc, .int .i64 n, .bool log, .slice ca cn cc]] w
      (Ret w (.agg #[.int .i64 1, .int .i64 ak, .int .i64 ek, .int .i64 ec, .int .i64 es, .string sql, .slice pa pn pc, .int .i64 n, .bool log, .slice ca cn cc, .int .i64 0, .slice none 0 0])) := by
  go_enter Tryz.func96, Tryz.ntmps96
  go_wp2
  refine bodyPost_ret (by simp [results, Tryz.results96, go_sem]; try rfl) rfl ?_
  exact ⟨rfl, by go_grown⟩
theorem event_any (ek ec es : Int) (sql : ByteArray) (pa : Option Addr) (pn pc : Nat) (w : World) :
    Calls Tryz.prog 95 #[.agg #[.int .i64 ek, .int .i64 ec, .int .i64 es, .string sql, .slice pa pn pc]] w
      (Ret w (.agg #[.int .i64 1, .int .i64 1, .int .i64 ek, .int .i64 ec, .int .i64 es, .string sql, .slice pa pn pc, .int .i64 0, .bool false, .slice none 0 0, .int .i64 0, .slice none 0 0])) := by
  go_enter Tryz.func95, Tryz.ntmps95
  go_wp2
  refine bodyPost_ret (by simp [results, Tryz.results95, go_sem]; try rfl) rfl ?_
  exact ⟨rfl, by go_grown⟩
end Go.Proofs.YtkkildkleleppaaGreatDoor
