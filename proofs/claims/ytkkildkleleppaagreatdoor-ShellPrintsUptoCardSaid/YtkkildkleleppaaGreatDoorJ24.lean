/- The closure that reads an event's words. The closures that read a word alone, a word with a number, a load. -/
import Derived.Test.YtkkildkleleppaaGreatDoorJ23
import Derived.RegionTactic
namespace Go.Proofs.YtkkildkleleppaaGreatDoor
open Go.RowKit

/-- A verb's reader is through. -/
def VerbE (b : Nat) (w : World) (o : Except Int (C × Bool)) (e : Ending) (w' : World) : Prop :=
  match o with
  | .error n => e = .panicked (wrong32 n) ∧ Moved b w w'
  | .ok x => ∃ v l, e = .returned v ∧ OwnC w' w.heap.size v x.1 ∧ IsQ w' b (l, x.2) ∧ l.length ≤ 100000000 ∧ Moved b w w'
theorem VerbE.no {b : Nat} {w w' : World} {o : Except Int (C × Bool)} {n : Int} (h : o = .error n) (hm : Moved b w w') : VerbE b w o (.panicked (wrong32 n)) w' := by subst h; exact ⟨rfl, hm⟩
theorem VerbE.yes {b : Nat} {w w' : World} {o : Except Int (C × Bool)} {c : C} {m : Bool} {v : Value} (l : List UInt8) (h : o = .ok (c, m)) (hc : OwnC w' w.heap.size v c) (hq : IsQ w' b (l, m)) (hl : l.length ≤ 100000000) (hm : Moved b w w') : VerbE b w o (.returned v) w' := by subst h; exact ⟨v, l, rfl, hc, hq, hl, hm⟩

theorem cell_moved {w w' : World} {b a i : Nat} {v : Value} (hm : Moved b w w') (hne : a ≠ b) (h : w.cell? ⟨a, i, none⟩ = some v) : w'.cell? ⟨a, i, none⟩ = some v := by
  have hk := hm.block a (lt_of_cell h) (by intro e; injection e with e; exact hne e)
  unfold World.cell? at *; rw [hk]; exact h

theorem Moved.over {b g : Nat} {w w1 w2 : World} (h : Moved b w w1) (h2 : Moved g w1 w2) (hg : w.heap.size ≤ g) : Moved b w w2 :=
  ⟨h2.os.trans h.os, h2.tape.trans h.tape, h2.output.trans h.output, Nat.le_trans h.size h2.size, fun k hk hne =>
    (h2.block k (Nat.lt_of_lt_of_le hk h.size) (by intro e; injection e with e; omega)).trans (h.block k hk hne)⟩
theorem IsQ.moved {w w' : World} {b g : Nat} {s : St} (h : IsQ w b s) (hm : Moved g w w') (hne : g ≠ b) : IsQ w' b s := by
  have hk := hm.block b h.lt (by intro e; injection e with e; exact hne e.symm)
  refine ⟨?_, ?_, ?_, ?_⟩
  · have := h.1; unfold World.cell? at *; rw [hk]; exact this
  · have := h.2.1; unfold World.cell? at *; rw [hk]; exact this
  · have := h.2.2.1; exact (World.frozen?_of_block (w := w) (w' := w') (a := ⟨b, 0, none⟩) hk).trans this
  · have := h.2.2.2; exact (World.frozen?_of_block (w := w) (w' := w') (a := ⟨b, 1, none⟩) hk).trans this
/-- A command whose rows are the call's own, behind stores into a command's variable. -/
theorem OwnC.movedR {w w' : World} {B g : Nat} {v : Value} {c : C} {cs : Array Value} (h : OwnC w B v c) (hg : Blk w g cs 47) (hm : Moved g w w') : OwnC w' B v c := by
  obtain ⟨pv, cv, tv, xs, hv, h1, h2, h3, h4⟩ := h
  refine ⟨pv, cv, tv, xs, hv, own_moved h1 hm (hg.apart h1 (by decide)), own_moved h2 hm (hg.apart h2 (by decide)), own_moved h3 hm (hg.apart h3 (by decide)), h4.1, h4.2.1, fun i t hi => ?_⟩
  obtain ⟨h0, u, hu, hown⟩ := h4.2.2 i t hi
  exact ⟨h0, u, hu, own_moved hown hm (hg.apart hown (by decide))⟩
/-- A command's variable, as it is made. -/
def CBox (w : World) (g : Nat) : Prop := Blk w g #[.int .i64 0, .int .i64 0, .int .i64 0, .int .i64 0, .int .i64 0, .string ⟨#[]⟩, .slice none 0 0, .int .i64 0, .bool false, .slice none 0 0, .int .i64 0, .slice none 0 0] 47
theorem CBox.cells {w : World} {g : Nat} (h : CBox w g) : w.cell? ⟨g, 0, none⟩ = some (.int .i64 0) ∧ w.cell? ⟨g, 1, none⟩ = some (.int .i64 0) ∧ w.cell? ⟨g, 2, none⟩ = some (.int .i64 0) ∧ w.cell? ⟨g, 3, none⟩ = some (.int .i64 0) ∧
    w.cell? ⟨g, 4, none⟩ = some (.int .i64 0) ∧ w.cell? ⟨g, 5, none⟩ = some (.string ⟨#[]⟩) ∧ w.cell? ⟨g, 6, none⟩ = some (.slice none 0 0) ∧ w.cell? ⟨g, 7, none⟩ = some (.int .i64 0) ∧ w.cell? ⟨g, 8, none⟩ = some (.bool false) ∧
    w.cell? ⟨g, 9, none⟩ = some (.slice none 0 0) ∧ w.cell? ⟨g, 10, none⟩ = some (.int .i64 0) ∧ w.cell? ⟨g, 11, none⟩ = some (.slice none 0 0) :=
  ⟨Blk.cell h 0, Blk.cell h 1, Blk.cell h 2, Blk.cell h 3, Blk.cell h 4, Blk.cell h 5, Blk.cell h 6, Blk.cell h 7, Blk.cell h 8, Blk.cell h 9, Blk.cell h 10, Blk.cell h 11⟩
theorem CBox.free {w : World} {g : Nat} (h : CBox w g) : w.frozen? ⟨g, 0, none⟩ = false ∧ w.frozen? ⟨g, 1, none⟩ = false ∧ w.frozen? ⟨g, 2, none⟩ = false ∧ w.frozen? ⟨g, 3, none⟩ = false ∧ w.frozen? ⟨g, 4, none⟩ = false ∧ w.frozen? ⟨g, 5, none⟩ = false ∧
    w.frozen? ⟨g, 6, none⟩ = false ∧ w.frozen? ⟨g, 7, none⟩ = false ∧ w.frozen? ⟨g, 8, none⟩ = false ∧ w.frozen? ⟨g, 9, none⟩ = false ∧ w.frozen? ⟨g, 10, none⟩ = false ∧ w.frozen? ⟨g, 11, none⟩ = false :=
  ⟨Blk.free h 0, Blk.free h 1, Blk.free h 2, Blk.free h 3, Blk.free h 4, Blk.free h 5, Blk.free h 6, Blk.free h 7, Blk.free h 8, Blk.free h 9, Blk.free h 10, Blk.free h 11⟩
theorem VerbE.fin {b : Nat} {w W0 w4 w' : World} {o : Except Int (C × Bool)} {c : C} {m : Bool} {v : Value} {l : List UInt8} (ho : o = .ok (c, m)) (hc : OwnC w4 W0.heap.size v c) (hR : CBox w4 w.heap.size) (hq : IsQ w4 b (l, m)) (hl : l.length ≤ 100000000)
    (hm : Moved b w w4) (hb : b < w.heap.size) (hz : w.heap.size ≤ W0.heap.size) (h12 : Moved w.heap.size w4 w') : VerbE b w o (.returned v) w' :=
  VerbE.yes l ho ((hc.movedR hR h12).mono hz) (hq.moved h12 (by omega)) hl (hm.over h12 (Nat.le_refl _))
theorem cell_alloc {w : World} {p : Addr} {v : Value} (o : Obj) (h : w.cell? p = some v) : (w.alloc o).cell? p = some v := ((below_alloc w o).cell (lt_of_cell h)).trans h

theorem tail_len {t : Nat} {s s' : St} {z : ByteArray × List V} (h : tailR t s = some (z, s')) : s'.1.length ≤ s.1.length := by
  match t, h with
  | 0, h =>
    simp only [tailR, Option.some.injEq, Prod.mk.injEq] at h
    obtain ⟨-, rfl⟩ := h
    exact Nat.le_refl _
  | 1, h =>
    simp only [tailR] at h
    unfold allS at h
    split at h
    · simp only [Option.map_some, Option.some.injEq, Prod.mk.injEq] at h
      obtain ⟨-, rfl⟩ := h
      exact Nat.le_refl _
    · cases h
  | 2, h =>
    simp only [tailR] at h
    cases hv : valsS s with
    | none => rw [hv] at h; cases h
    | some y =>
      have := vals_len (vs := y.1) (s' := y.2) hv
      rw [hv] at h
      simp only at h
      unfold allS at h
      split at h
      · simp only [Option.map_some, Option.some.injEq, Prod.mk.injEq] at h
        obtain ⟨-, rfl⟩ := h
        exact this
      · cases h
  | t + 3, h =>
    simp only [tailR] at h
    split at h
    · cases hv : valsS s with
      | none => rw [hv] at h; cases h
      | some y =>
        have := vals_len (vs := y.1) (s' := y.2) hv
        rw [hv] at h
        simp only [Option.map_some, Option.some.injEq, Prod.mk.injEq] at h
        obtain ⟨-, rfl⟩ := h
        exact this
    · simp only [Option.some.injEq, Prod.mk.injEq] at h
      obtain ⟨-, rfl⟩ := h
      exact Nat.le_refl _
set_option maxRecDepth 100000 in
set_option maxHeartbeats 4000000 in
theorem evread_any (K : Int) (sl : Bool) (R : FuncId) (t : Nat) (hR : ReadsTail R t) (hcf : ∀ (args : Array Value) (w : World), (callFunc R args).run Tryz.prog w = .ok (.enter R args) w) (a1 a2 a3 b : Nat) (s : St) (hs : s.1.length ≤ 100000000) (w : World) (hE : EnvB b w) (hq : IsQ w b s)
    (h1 : w.cell? ⟨a1, 0, none⟩ = some (.int .i64 K)) (h2 : w.cell? ⟨a2, 0, none⟩ = some (.bool sl)) (h3 : w.cell? ⟨a3, 0, none⟩ = some (.func (.func R) #[] #[])) (n1 : a1 ≠ b) (n2 : a2 ≠ b) (n3 : a3 ≠ b) :
    Calls Tryz.prog 126 #[.pointer (some ⟨b, 0, none⟩), .pointer (some ⟨a1, 0, none⟩), .pointer (some ⟨a2, 0, none⟩), .pointer (some ⟨a3, 0, none⟩)] w (VerbE b w (words (eventR K sl t s))) := by
  have hbl := hq.lt
  have HN := fun w' h he => number_any b s hs w' h he
  obtain ⟨W0, hW0⟩ : ∃ W0, w.alloc (.cells #[.int .i64 0, .int .i64 0, .int .i64 0, .int .i64 0, .int .i64 0, .string ⟨#[]⟩, .slice none 0 0, .int .i64 0, .bool false, .slice none 0 0, .int .i64 0, .slice none 0 0] 47) = W0 := ⟨_, rfl⟩
  have HZ0 : Hid (W0.heap.size = w.heap.size + 1) := Lib.hid (by rw [← hW0]; simp)
  have HB0 : Hid (Below w.heap.size w W0) := Lib.hid (by rw [← hW0]; exact below_alloc _ _)
  have HR0 : Hid (CBox W0 w.heap.size) := Lib.hid (by rw [← hW0]; exact Blk.new _ _ _)
  have HM0 : Hid (Moved b w W0) := Lib.hid (Moved.of_below HB0.out)
  have HQ0 : Hid (IsQ W0 b s) := Lib.hid (hq.below HB0.out)
  have HE0 : Hid (EnvB b W0) := Lib.hid (hE.moved HM0.out)
  have HQd : Hid (IsQ W0.drew b s) := HQ0
  have HEd : Hid (EnvB b W0.drew) := Lib.hid (HE0.out.moved (Moved.refl _ _).drew)
  have HQa : Hid (∀ o, IsQ (W0.drew.alloc o) b s) := Lib.hid (fun o => HQd.out.alloc o)
  have HEa : Hid (∀ o, EnvB b (W0.drew.alloc o)) := Lib.hid (fun o => HE0.out.moved ((Moved.refl _ _).drew.alloc _))
  have k1 := cell_moved HM0.out n1 h1
  have k2 := Lib.hid (cell_moved HM0.out n2 h2)
  have k3 := Lib.hid (cell_moved HM0.out n3 h3)
  clear hq h1 h2 h3 hE
  cases hn : numS s with
  | none =>
    have HX : Hid (words (eventR K sl t s) = .error 421) := Lib.hid (by simp [eventR, hn, words])
    rw [hn] at HN
    have HN := Lib.hid HN
    clear hn
    go_enter Tryz.func126, Tryz.ntmps126
    go_wp2_with fail
    clear hW0
    refine wp_region_held_drew (S := fun w' => w'.cell? ⟨a1, 0, none⟩ = some (.int .i64 K)) (by kernel_rfl) k1 (fun hHeld => ?_)
    (refine wpAnyH_take (i := 0) (v := (.int .i64 K)) rfl (by kernel_rfl) (by kernel_rfl) (by kernel_rfl) (fun _ _ _ h => h) (Or.inl ⟨by rfl, by intro w hSw; go_simp; try with_reducible rfl⟩) (by assumption) ?_; simp only [List.getElem_toArray, List.getElem_cons_zero, Act.put, List.setIfInBounds_toArray, List.set_cons_succ, List.set_cons_zero])
    (refine wpAnyH_take (i := 1) (v := (.pointer (some ⟨b, 0, none⟩))) rfl (by kernel_rfl) (by kernel_rfl) (by kernel_rfl) (fun _ _ _ h => h) (Or.inl ⟨by rfl, by intro w hSw; go_simp; try with_reducible rfl⟩) (by assumption) ?_; simp only [List.getElem_toArray, List.getElem_cons_succ, List.getElem_cons_zero, Act.put, List.setIfInBounds_toArray, List.set_cons_succ, List.set_cons_zero])
    refine wpAnyH_ready (rs := [2, 4]) (by kernel_rfl) (by simp) (AllReadyH.cons rfl (fun K' hK => ?_) (AllReadyH.cons rfl (fun K' hK => ?_) AllReadyH.nil))
    · go_simp
      exact (HN.out _ HQd.out HEd.out).mono (fun e w5 hh => by obtain ⟨rfl, hm5⟩ := hh; exact ⟨rfl, VerbE.no HX.out (HM0.out.drew.trans hm5)⟩)
    · go_simp
      refine hK.out _ _ (cell_alloc (w := W0.drew) _ k1) (fun hHeld => ?_)
      clear hK K'
      refine wpAnyH_ready (rs := [2]) (by kernel_rfl) (by simp) (AllReadyH.cons rfl (fun K' hK => ?_) AllReadyH.nil)
      go_simp
      exact (HN.out _ (HQa.out _) (HEa.out _)).mono (fun e w5 hh => by obtain ⟨rfl, hm5⟩ := hh; exact ⟨rfl, VerbE.no HX.out ((HM0.out.drew.alloc _).trans hm5)⟩)
  | some x =>
    obtain ⟨n, s1⟩ := x
    rw [hn] at HN
    go_enter Tryz.func126, Tryz.ntmps126
    go_upto_region 1 with fail
    clear hW0
    have HN := Lib.hid HN
    have hna : ¬ W0.heap.size = a1 := by have := lt_of_cell k1; intro e; simp only at this; omega
    have hgb : Hid (b ≠ W0.drew.heap.size) := Lib.hid (by intro e; have h1 : W0.drew.heap.size = W0.heap.size := rfl; have h2 := HZ0.out; omega)
    go_cut [6] (fun p wx => ∃ g : Nat, p = .pointer (some ⟨g, 0, none⟩) ∧ W0.heap.size ≤ g ∧ EBox wx g K n 0 ByteArray.empty (.slice none 0 0) ∧ IsQ wx b s1 ∧ Moved b W0 wx)
    case first =>
      go_region_held3 (fun w' => w'.cell? ⟨a1, 0, none⟩ = some (.int .i64 K)) (first | (with_reducible exact k1) | (with_reducible exact k5) | go_keep)
        (first | (go_at_call 127; (first | (refine (HN.out _ HQd.out HEd.out).mono ?_; rintro e w5 ⟨rfl, hq5, hm5⟩; have k5 := cell_moved (hm5) n1 k1) | (refine (HN.out _ (HQa.out _) (HEa.out _)).mono ?_; rintro e w5 ⟨rfl, hq5, hm5⟩; have k5 := cell_moved (hm5) n1 (cell_alloc _ k1); have B5 : Hid (EBox w5 W0.heap.size 0 0 0 ⟨#[]⟩ (.slice none 0 0)) := Lib.hid (Blk.moved (Blk.new W0.drew _ _) hm5 hgb.out); obtain ⟨c0, c1, c2, c3, c4⟩ := EBox.cells B5.out; have f0 := Blk.free B5.out 0; have f1 := Blk.free B5.out 1; have f2 := Blk.free B5.out 2; have f3 := Blk.free B5.out 3; have f4 := Blk.free B5.out 4))))
      all_goals
        go_wp2_with fail
        go_meet
        case rel =>
          have h9 := hm5.size
          first
            | exact ⟨w5.heap.size, rfl, h9, Blk.new _ _ _, hq5.alloc _, ((Moved.refl b W0).drew.trans hm5).alloc _⟩
            | exact ⟨W0.heap.size, rfl, Nat.le_refl _, Blk.set (Blk.set (Blk.set (Blk.set (Blk.set B5.out 0 _) 1 _) 2 _) 3 _) 4 _,
                ((((hq5.setO (fun e => hgb.out e.symm) _).setO (fun e => hgb.out e.symm) _).setO (fun e => hgb.out e.symm) _).setO (fun e => hgb.out e.symm) _).setO (fun e => hgb.out e.symm) _,
                (((((((Moved.refl b W0).drew.alloc _).trans hm5).setO (Nat.le_refl _) _).setO (Nat.le_refl _) _).setO (Nat.le_refl _) _).setO (Nat.le_refl _) _).setO (Nat.le_refl _) _⟩
    case rest =>
      obtain ⟨g, rfl, hg, hbx, hq1, hm1⟩ := hcut
      have hbW : b < W0.heap.size := HQ0.out.lt
      have hl1 : s1.1.length ≤ 100000000 := Nat.le_trans (num_len hn) hs
      have j2 := cell_moved hm1 n2 k2.out
      have j3 := cell_moved hm1 n3 k3.out
      have HM1 := Lib.hid hm1
      have HQ1 := Lib.hid hq1
      have HBx := Lib.hid hbx
      have HEv := Lib.hid (fun w' sql pa pn pc => event_any K n 0 sql pa pn pc w')
      cases sl with
      | false =>
        have HT := hR W0 b g K n 0 s1 wc hl1 hbW hg hm1 (HE0.out.moved hm1) hq1 hbx
        have HX : words (eventR K false t s) = words ((tailR t s1).map fun z => (C.event K n 0 z.1.1 z.1.2, z.2.2)) := by simp [eventR, hn, slotR]
        clear hq1 hm1 hbx hn
        cases ht : tailR t s1 with
        | none =>
          have HX2 : Hid (words (eventR K _ t s) = .error 421) := Lib.hid (by rw [HX, ht]; rfl)
          rw [ht] at HT
          clear HX ht
          have HT := Lib.hid HT
          go_wp2_with (first | (fail) | ((with_reducible refine (HT.out).mono ?_); rintro e w3 ⟨rfl, hm3⟩))
          refine ⟨rfl, ?_⟩
          exact VerbE.no HX2.out (HM0.out.trans hm3)
        | some z =>
          obtain ⟨⟨sql, ps⟩, s3⟩ := z
          rw [ht] at HT
          have HX2 : Hid (words (eventR K _ t s) = .ok (C.event K n 0 sql ps, s3.2)) := Lib.hid (by rw [HX, ht]; rfl)
          have htl := Lib.hid (tail_len ht)
          have HT := Lib.hid HT
          clear HX ht
          go_wp2_with (first
            | (go_at_call 95; refine (HEv.out _ _ _ _ _).mono ?_; rintro e w4 ⟨rfl, hb4⟩; have HR4 := Lib.hid (Blk.below (Blk.moved HR0.out hm3 (by omega)) hb4); obtain ⟨r0, r1, r2, r3, r4, r5, r6, r7, r8, r9, r10, r11⟩ := CBox.cells HR4.out; obtain ⟨g0, g1, g2, g3, g4, g5, g6, g7, g8, g9, g10, g11⟩ := CBox.free HR4.out)
            | (fail)
            | ((with_reducible refine (HT.out).mono ?_); rintro e w3 ⟨pv, rfl, hbx3, hown3, hq3, hm3⟩; obtain ⟨pa, pc, hpv, -, -, -⟩ := own_form hown3; subst hpv; obtain ⟨c0, c1, c2, c3, c4⟩ := EBox.cells hbx3))
          refine bodyPost_ret (by simp [results, Tryz.results126, go_sem, r0, r1, r2, r3, r4, r5, r6, r7, r8, r9, r10, r11]; try rfl) rfl ?_
          have hm4 : Moved b W0 w4 := hm3.trans (Moved.of_below hb4)
          refine VerbE.fin (W0 := W0) (w4 := w4) (l := s3.1) HX2.out ⟨_, _, _, [], rfl, own_kept hown3 hb4, World.ownsRow_nil _ _ _ _, World.ownsRow_nil _ _ _ _, TRow.nil_ _ _ _⟩ HR4.out (hq3.below hb4) (by have := htl.out; omega) (HM0.out.trans hm4) hbl (by have := HZ0.out; omega) ?_
          exact ((((((((((((Moved.set w.heap.size 0 _ _).trans (Moved.set w.heap.size 1 _ _)).trans (Moved.set w.heap.size 2 _ _)).trans (Moved.set w.heap.size 3 _ _)).trans (Moved.set w.heap.size 4 _ _)).trans (Moved.set w.heap.size 5 _ _)).trans (Moved.set w.heap.size 6 _ _)).trans (Moved.set w.heap.size 7 _ _)).trans (Moved.set w.heap.size 8 _ _)).trans (Moved.set w.heap.size 9 _ _)).trans (Moved.set w.heap.size 10 _ _)).trans (Moved.set w.heap.size 11 _ _))
      | true =>
        have HN1 := fun w' h he => number_any b s1 hl1 w' h he
        have hE1 := Lib.hid (HE0.out.moved hm1)
        clear hq1 hm1 hbx
        cases hn1 : numS s1 with
        | none =>
          have HX : Hid (words (eventR K true t s) = .error 421) := Lib.hid (by simp [eventR, hn, slotR, hn1, words])
          rw [hn1] at HN1
          clear hn hn1
          go_wp2_with (go_at_call 127; refine (HN1 _ HQ1.out hE1.out).mono ?_; rintro e w2 ⟨rfl, hm2⟩)
          refine ⟨rfl, ?_⟩
          exact VerbE.no HX.out ((HM0.out.trans HM1.out).trans hm2)
        | some y =>
          obtain ⟨m, s2⟩ := y
          rw [hn1] at HN1
          have hl2 : s2.1.length ≤ 100000000 := Nat.le_trans (num_len hn1) hl1
          have HX : words (eventR K true t s) = words ((tailR t s2).map fun z => (C.event K n m z.1.1 z.1.2, z.2.2)) := by simp [eventR, hn, slotR, hn1]
          clear hn hn1
          have hgb2 : g ≠ b := by omega
          have hga : g ≠ a3 := by have := lt_of_cell j3; have := hg; have := lt_of_cell k3.out; simp only at *; omega
          have HEv := Lib.hid (fun w' sql pa pn pc => event_any K n m sql pa pn pc w')
          have HT := fun w' hm he hq hbx => hR W0 b g K n m s2 w' hl2 hbW hg hm he hq hbx
          cases ht : tailR t s2 with
          | none =>
            have HX2 : Hid (words (eventR K _ t s) = .error 421) := Lib.hid (by rw [HX, ht]; rfl)
            rw [ht] at HT
            clear HX ht
            have HT := Lib.hid HT
            go_wp2_with (first | (go_at_call 127; refine (HN1 _ HQ1.out hE1.out).mono ?_; rintro e w2 ⟨rfl, hq2, hm2⟩; have HB2 := Lib.hid (Blk.moved HBx.out hm2 (fun e => hgb2 e.symm)); obtain ⟨c0, c1, c2, c3, c4⟩ := EBox.cells HB2.out; have f2 := Blk.free HB2.out 2; have HMs := Lib.hid ((HM1.out.trans hm2).setO (p := ⟨g, 2, none⟩) hg (.int .i64 m)); have j3s := cell_moved (Moved.set g 2 w2 (.int .i64 m)) (fun e => hga e.symm) (cell_moved hm2 n3 j3); have HEs := Lib.hid (HE0.out.moved HMs.out); have HQs := Lib.hid (IsQ.setO (p := ⟨g, 2, none⟩) hq2 hgb2 (.int .i64 m)); have HBs := Lib.hid (EBox.set2 HB2.out m)) | ((with_reducible refine (HT.out _ HMs.out HEs.out HQs.out HBs.out).mono ?_); rintro e w3 ⟨rfl, hm3⟩))
            refine ⟨rfl, ?_⟩
            exact VerbE.no HX2.out (HM0.out.trans hm3)
          | some z =>
            obtain ⟨⟨sql, ps⟩, s3⟩ := z
            rw [ht] at HT
            have HX2 : Hid (words (eventR K _ t s) = .ok (C.event K n m sql ps, s3.2)) := Lib.hid (by rw [HX, ht]; rfl)
            have htl := Lib.hid (tail_len ht)
            have HT := Lib.hid HT
            clear HX ht
            go_wp2_with (first
              | (go_at_call 95; refine (HEv.out _ _ _ _ _).mono ?_; rintro e w4 ⟨rfl, hb4⟩; have HR4 := Lib.hid (Blk.below (Blk.moved HR0.out hm3 (by omega)) hb4); obtain ⟨r0, r1, r2, r3, r4, r5, r6, r7, r8, r9, r10, r11⟩ := CBox.cells HR4.out; obtain ⟨g0, g1, g2, g3, g4, g5, g6, g7, g8, g9, g10, g11⟩ := CBox.free HR4.out)
              | (go_at_call 127; refine (HN1 _ HQ1.out hE1.out).mono ?_; rintro e w2 ⟨rfl, hq2, hm2⟩; have HB2 := Lib.hid (Blk.moved HBx.out hm2 (fun e => hgb2 e.symm)); obtain ⟨c0, c1, c2, c3, c4⟩ := EBox.cells HB2.out; have f2 := Blk.free HB2.out 2; have HMs := Lib.hid ((HM1.out.trans hm2).setO (p := ⟨g, 2, none⟩) hg (.int .i64 m)); have j3s := cell_moved (Moved.set g 2 w2 (.int .i64 m)) (fun e => hga e.symm) (cell_moved hm2 n3 j3); have HEs := Lib.hid (HE0.out.moved HMs.out); have HQs := Lib.hid (IsQ.setO (p := ⟨g, 2, none⟩) hq2 hgb2 (.int .i64 m)); have HBs := Lib.hid (EBox.set2 HB2.out m))
              | ((with_reducible refine (HT.out _ HMs.out HEs.out HQs.out HBs.out).mono ?_); rintro e w3 ⟨pv, rfl, hbx3, hown3, hq3, hm3⟩; obtain ⟨pa, pc, hpv, -, -, -⟩ := own_form hown3; subst hpv; obtain ⟨c0, c1, c2, c3, c4⟩ := EBox.cells hbx3))
            refine bodyPost_ret (by simp [results, Tryz.results126, go_sem, r0, r1, r2, r3, r4, r5, r6, r7, r8, r9, r10, r11]; try rfl) rfl ?_
            have hm4 : Moved b W0 w4 := hm3.trans (Moved.of_below hb4)
            refine VerbE.fin (W0 := W0) (w4 := w4) (l := s3.1) HX2.out ⟨_, _, _, [], rfl, own_kept hown3 hb4, World.ownsRow_nil _ _ _ _, World.ownsRow_nil _ _ _ _, TRow.nil_ _ _ _⟩ HR4.out (hq3.below hb4) (by have := htl.out; omega) (HM0.out.trans hm4) hbl (by have := HZ0.out; omega) ?_
            exact ((((((((((((Moved.set w.heap.size 0 _ _).trans (Moved.set w.heap.size 1 _ _)).trans (Moved.set w.heap.size 2 _ _)).trans (Moved.set w.heap.size 3 _ _)).trans (Moved.set w.heap.size 4 _ _)).trans (Moved.set w.heap.size 5 _ _)).trans (Moved.set w.heap.size 6 _ _)).trans (Moved.set w.heap.size 7 _ _)).trans (Moved.set w.heap.size 8 _ _)).trans (Moved.set w.heap.size 9 _ _)).trans (Moved.set w.heap.size 10 _ _)).trans (Moved.set w.heap.size 11 _ _))
end Go.Proofs.YtkkildkleleppaaGreatDoor
namespace Go.Proofs.YtkkildkleleppaaGreatDoor
open Go.RowKit

theorem Blk.c12 {w : World} {g : Nat} {T : TypeId} {a0 a1 a2 a3 a4 a5 a6 a7 a8 a9 a10 a11 : Value} (h : Blk w g #[a0, a1, a2, a3, a4, a5, a6, a7, a8, a9, a10, a11] T) : w.cell? ⟨g, 0, none⟩ = some a0 ∧ w.cell? ⟨g, 1, none⟩ = some a1 ∧ w.cell? ⟨g, 2, none⟩ = some a2 ∧ w.cell? ⟨g, 3, none⟩ = some a3 ∧
    w.cell? ⟨g, 4, none⟩ = some a4 ∧ w.cell? ⟨g, 5, none⟩ = some a5 ∧ w.cell? ⟨g, 6, none⟩ = some a6 ∧ w.cell? ⟨g, 7, none⟩ = some a7 ∧ w.cell? ⟨g, 8, none⟩ = some a8 ∧ w.cell? ⟨g, 9, none⟩ = some a9 ∧ w.cell? ⟨g, 10, none⟩ = some a10 ∧ w.cell? ⟨g, 11, none⟩ = some a11 :=
  ⟨Blk.cell h 0, Blk.cell h 1, Blk.cell h 2, Blk.cell h 3, Blk.cell h 4, Blk.cell h 5, Blk.cell h 6, Blk.cell h 7, Blk.cell h 8, Blk.cell h 9, Blk.cell h 10, Blk.cell h 11⟩
def C.plain (k ak ek : Int) : C := ⟨k, ak, ek, 0, 0, ByteArray.empty, [], 0, false, [], 0, []⟩
/-- A plain command's variable. -/
def PBox (w : World) (g : Nat) (k ak ek : Int) : Prop := Blk w g #[.int .i64 k, .int .i64 ak, .int .i64 ek, .int .i64 0, .int .i64 0, .string ⟨#[]⟩, .slice none 0 0, .int .i64 0, .bool false, .slice none 0 0, .int .i64 0, .slice none 0 0] 47
theorem PBox.cells {w : World} {g : Nat} {k ak ek : Int} (h : PBox w g k ak ek) : w.cell? ⟨g, 0, none⟩ = some (.int .i64 k) ∧ w.cell? ⟨g, 1, none⟩ = some (.int .i64 ak) ∧ w.cell? ⟨g, 2, none⟩ = some (.int .i64 ek) ∧ w.cell? ⟨g, 3, none⟩ = some (.int .i64 0) ∧
    w.cell? ⟨g, 4, none⟩ = some (.int .i64 0) ∧ w.cell? ⟨g, 5, none⟩ = some (.string ⟨#[]⟩) ∧ w.cell? ⟨g, 6, none⟩ = some (.slice none 0 0) ∧ w.cell? ⟨g, 7, none⟩ = some (.int .i64 0) ∧ w.cell? ⟨g, 8, none⟩ = some (.bool false) ∧
    w.cell? ⟨g, 9, none⟩ = some (.slice none 0 0) ∧ w.cell? ⟨g, 10, none⟩ = some (.int .i64 0) ∧ w.cell? ⟨g, 11, none⟩ = some (.slice none 0 0) :=
  ⟨Blk.cell h 0, Blk.cell h 1, Blk.cell h 2, Blk.cell h 3, Blk.cell h 4, Blk.cell h 5, Blk.cell h 6, Blk.cell h 7, Blk.cell h 8, Blk.cell h 9, Blk.cell h 10, Blk.cell h 11⟩
/-- A command's variable has just been made. -/
structure Made (w W0 : World) : Prop where
  size : W0.heap.size = w.heap.size + 1
  bl : Below w.heap.size w W0
  bx : CBox W0 w.heap.size
theorem Made.of (w : World) : Made w (w.alloc (.cells #[.int .i64 0, .int .i64 0, .int .i64 0, .int .i64 0, .int .i64 0, .string ⟨#[]⟩, .slice none 0 0, .int .i64 0, .bool false, .slice none 0 0, .int .i64 0, .slice none 0 0] 47)) := ⟨by simp, below_alloc _ _, Blk.new _ _ _⟩
/-- A command without rows. -/
theorem OwnC.bare {w : World} {B : Nat} {c : C} (h1 : c.ps = []) (h2 : c.ch = []) (h3 : c.told = []) : OwnC w B (c.val (.slice none 0 0) (.slice none 0 0) (.slice none 0 0)) c :=
  ⟨_, _, _, [], rfl, by rw [h1]; exact World.ownsRow_nil _ _ _ _, by rw [h2]; exact World.ownsRow_nil _ _ _ _, by rw [h3]; exact World.ownsRow_nil _ _ _ _, by rw [h3]; exact TRow.nil_ _ _ _⟩

set_option maxHeartbeats 1000000 in
theorem plainread_any (k ak ek : Int) (a b : Nat) (s : St) (hs : s.1.length ≤ 100000000) (w : World) (hq : IsQ w b s) (hp : PBox w a k ak ek) :
    Calls Tryz.prog 130 #[.pointer (some ⟨b, 0, none⟩), .pointer (some ⟨a, 0, none⟩)] w (VerbE b w (.ok (C.plain k ak ek, s.2))) := by
  obtain ⟨W0, hW0⟩ : ∃ W0, w.alloc (.cells #[.int .i64 0, .int .i64 0, .int .i64 0, .int .i64 0, .int .i64 0, .string ⟨#[]⟩, .slice none 0 0, .int .i64 0, .bool false, .slice none 0 0, .int .i64 0, .slice none 0 0] 47) = W0 := ⟨_, rfl⟩
  have HD : Hid (Made w W0) := Lib.hid (by rw [← hW0]; exact Made.of w)
  have hbl := hq.lt
  have HQ0 := Lib.hid (hq.below HD.out.bl)
  obtain ⟨c0, c1, c2, c3, c4, c5, c6, c7, c8, c9, c10, c11⟩ := PBox.cells (Blk.below hp HD.out.bl)
  obtain ⟨r0, r1, r2, r3, r4, r5, r6, r7, r8, r9, r10, r11⟩ := CBox.cells HD.out.bx
  obtain ⟨g0, g1, g2, g3, g4, g5, g6, g7, g8, g9, g10, g11⟩ := CBox.free HD.out.bx
  clear hq hp
  go_enter Tryz.func130, Tryz.ntmps130
  go_wp2
  refine bodyPost_ret (by simp [results, Tryz.results130, go_sem, r0, r1, r2, r3, r4, r5, r6, r7, r8, r9, r10, r11]; try rfl) rfl ?_
  refine VerbE.fin (W0 := W0) (w4 := W0) (l := s.1) rfl (OwnC.bare (c := C.plain k ak ek) rfl rfl rfl) HD.out.bx HQ0.out hs (Moved.of_below HD.out.bl) hbl (by have := HD.out.size; omega) ?_
  exact ((((((((((((Moved.set w.heap.size 0 _ _).trans (Moved.set w.heap.size 1 _ _)).trans (Moved.set w.heap.size 2 _ _)).trans (Moved.set w.heap.size 3 _ _)).trans (Moved.set w.heap.size 4 _ _)).trans (Moved.set w.heap.size 5 _ _)).trans (Moved.set w.heap.size 6 _ _)).trans (Moved.set w.heap.size 7 _ _)).trans (Moved.set w.heap.size 8 _ _)).trans (Moved.set w.heap.size 9 _ _)).trans (Moved.set w.heap.size 10 _ _)).trans (Moved.set w.heap.size 11 _ _))

set_option maxRecDepth 100000 in
set_option maxHeartbeats 2000000 in
theorem countread_any (ak : Int) (a b : Nat) (s : St) (hs : s.1.length ≤ 100000000) (w : World) (hE : EnvB b w) (hq : IsQ w b s) (h1 : w.cell? ⟨a, 0, none⟩ = some (.int .i64 ak)) (n1 : a ≠ b) :
    Calls Tryz.prog 132 #[.pointer (some ⟨b, 0, none⟩), .pointer (some ⟨a, 0, none⟩)] w (VerbE b w (words (countR ak s))) := by
  obtain ⟨W0, hW0⟩ : ∃ W0, w.alloc (.cells #[.int .i64 0, .int .i64 0, .int .i64 0, .int .i64 0, .int .i64 0, .string ⟨#[]⟩, .slice none 0 0, .int .i64 0, .bool false, .slice none 0 0, .int .i64 0, .slice none 0 0] 47) = W0 := ⟨_, rfl⟩
  have HD : Hid (Made w W0) := Lib.hid (by rw [← hW0]; exact Made.of w)
  have hbl := hq.lt
  have HM0 : Hid (Moved b w W0) := Lib.hid (Moved.of_below HD.out.bl)
  have HQd : Hid (IsQ W0.drew b s) := Lib.hid (show IsQ W0 b s from hq.below HD.out.bl)
  have HEd : Hid (EnvB b W0.drew) := Lib.hid ((hE.moved HM0.out).moved (Moved.refl _ _).drew)
  have k1 := cell_moved HM0.out n1 h1
  have HN := number_any b s hs W0.drew HQd.out HEd.out
  have ha : a < w.heap.size := lt_of_cell h1
  clear hq h1 hE
  cases hn : numS s with
  | none =>
    have HX : Hid (words (countR ak s) = .error 421) := Lib.hid (by simp [countR, hn, words])
    rw [hn] at HN
    have HN := Lib.hid HN
    clear hn
    go_enter Tryz.func132, Tryz.ntmps132
    go_wp2_with fail
    clear hW0
    refine wp_region_held_drew (S := fun w' => w'.cell? ⟨a, 0, none⟩ = some (.int .i64 ak)) (by kernel_rfl) k1 (fun hHeld => ?_)
    (refine wpAnyH_take (i := 0) (v := (.int .i64 ak)) rfl (by kernel_rfl) (by kernel_rfl) (by kernel_rfl) (fun _ _ _ h => h) (Or.inl ⟨by rfl, by intro w hSw; go_simp; try with_reducible rfl⟩) (by assumption) ?_; simp only [List.getElem_toArray, List.getElem_cons_zero, Act.put, List.setIfInBounds_toArray, List.set_cons_succ, List.set_cons_zero])
    (refine wpAnyH_take (i := 1) (v := (.pointer (some ⟨b, 0, none⟩))) rfl (by kernel_rfl) (by kernel_rfl) (by kernel_rfl) (fun _ _ _ h => h) (Or.inl ⟨by rfl, by intro w hSw; go_simp; try with_reducible rfl⟩) (by assumption) ?_; simp only [List.getElem_toArray, List.getElem_cons_succ, List.getElem_cons_zero, Act.put, List.setIfInBounds_toArray, List.set_cons_succ, List.set_cons_zero])
    refine wpAnyH_ready (rs := [2]) (by kernel_rfl) (by simp) (AllReadyH.cons rfl (fun K' hK => ?_) AllReadyH.nil)
    go_simp
    exact HN.out.mono (fun e w5 hh => by obtain ⟨rfl, hm5⟩ := hh; exact ⟨rfl, VerbE.no HX.out (HM0.out.drew.trans hm5)⟩)
  | some x =>
    obtain ⟨n, s1⟩ := x
    have HX : Hid (words (countR ak s) = .ok (C.act ak n false [], s1.2)) := Lib.hid (by simp [countR, hn, words])
    have hl1 := Lib.hid (Nat.le_trans (num_len hn) hs)
    rw [hn] at HN
    have HN := Lib.hid HN
    have HAc := Lib.hid (fun w' => act_any ak 0 0 0 n ByteArray.empty none none 0 0 0 0 false w')
    have HZ : Hid (b ≠ w.heap.size) := Lib.hid (by omega)
    have hna : ¬ w.heap.size = a := fun e => absurd ha (by omega)
    clear hn
    go_enter Tryz.func132, Tryz.ntmps132
    go_wp2_with fail
    clear hW0
    go_region_held3 (fun w' => w'.cell? ⟨a, 0, none⟩ = some (.int .i64 ak)) (first | (with_reducible exact k1) | (with_reducible exact k5) | (with_reducible exact k6) | go_keep)
      (first
        | (go_at_call 127; refine HN.out.mono ?_; rintro e w5 ⟨rfl, hq5, hm5⟩; have k5 := cell_moved hm5 n1 k1)
        | (go_at_call 96; refine (HAc.out _).mono ?_; rintro e w6 ⟨rfl, hb6⟩; have k6 := (hb6.cell (lt_of_cell k5)).trans k5; have HR6 : Hid (CBox w6 w.heap.size) := Lib.hid (Blk.below (Blk.moved (w := W0.drew) HD.out.bx hm5 HZ.out) hb6); obtain ⟨r0, r1, r2, r3, r4, r5, r6, r7, r8, r9, r10, r11⟩ := CBox.cells HR6.out; obtain ⟨g0, g1, g2, g3, g4, g5, g6, g7, g8, g9, g10, g11⟩ := CBox.free HR6.out))
    go_wp2_with fail
    refine bodyPost_ret (by simp [results, Tryz.results132, go_sem, r0, r1, r2, r3, r4, r5, r6, r7, r8, r9, r10, r11]; try rfl) rfl ?_
    refine VerbE.fin (W0 := W0) (w4 := w6) (l := s1.1) HX.out (OwnC.bare (c := C.act ak n false []) rfl rfl rfl) HR6.out (hq5.below hb6) hl1.out ((HM0.out.drew.trans hm5).trans (Moved.of_below hb6)) hbl (by have := HD.out.size; omega) ?_
    exact ((((((((((((Moved.set w.heap.size 0 _ _).trans (Moved.set w.heap.size 1 _ _)).trans (Moved.set w.heap.size 2 _ _)).trans (Moved.set w.heap.size 3 _ _)).trans (Moved.set w.heap.size 4 _ _)).trans (Moved.set w.heap.size 5 _ _)).trans (Moved.set w.heap.size 6 _ _)).trans (Moved.set w.heap.size 7 _ _)).trans (Moved.set w.heap.size 8 _ _)).trans (Moved.set w.heap.size 9 _ _)).trans (Moved.set w.heap.size 10 _ _)).trans (Moved.set w.heap.size 11 _ _))

def wrongOf (o : Except Int (C × Bool)) : Prop := o = .error 421 ∨ o = .error 410
set_option maxRecDepth 100000 in
set_option maxHeartbeats 2000000 in
theorem load_any (b : Nat) (s : St) (hs : s.1.length ≤ 100000000) (w : World) (hE : EnvB b w) (hq : IsQ w b s) :
    Calls Tryz.prog 100 #[.pointer (some ⟨b, 0, none⟩)] w (VerbE b w (loadR s)) := by
  obtain ⟨W0, hW0⟩ : ∃ W0, w.alloc (.cells #[.int .i64 0, .int .i64 0, .int .i64 0, .int .i64 0, .int .i64 0, .string ⟨#[]⟩, .slice none 0 0, .int .i64 0, .bool false, .slice none 0 0, .int .i64 0, .slice none 0 0] 47) = W0 := ⟨_, rfl⟩
  have HD : Hid (Made w W0) := Lib.hid (by rw [← hW0]; exact Made.of w)
  have hbl := hq.lt
  have HM0 : Hid (Moved b w W0) := Lib.hid (Moved.of_below HD.out.bl)
  have HQ0 : Hid (IsQ W0 b s) := Lib.hid (hq.below HD.out.bl)
  have HE0 : Hid (EnvB b W0) := Lib.hid (hE.moved HM0.out)
  have HN := number_any b s hs W0 HQ0.out HE0.out
  have HZ : Hid (b ≠ w.heap.size) := Lib.hid (by omega)
  clear hq hE
  cases hn : numS s with
  | none =>
    have HX : Hid (loadR s = .error 421) := Lib.hid (by simp [loadR, hn])
    rw [hn] at HN
    have HN := Lib.hid HN
    clear hn
    go_enter Tryz.func100, Tryz.ntmps100
    go_wp2_with (go_at_call 127; refine HN.out.mono ?_; rintro e w1 ⟨rfl, hm1⟩)
    refine ⟨rfl, ?_⟩
    exact VerbE.no HX.out (HM0.out.trans hm1)
  | some x =>
    obtain ⟨n, s1⟩ := x
    have hl1 := Nat.le_trans (num_len hn) hs
    rw [hn] at HN
    have HN := Lib.hid HN
    have HA := Lib.hid (fun w' h => all_any b s1 w' h)
    cases ha : allS s1 with
    | none =>
      have HX : Hid (loadR s = .error 421) := Lib.hid (by simp [loadR, hn, ha])
      rw [ha] at HA
      clear hn ha
      go_enter Tryz.func100, Tryz.ntmps100
      go_wp2_with (first
        | (go_at_call 127; refine HN.out.mono ?_; rintro e w1 ⟨rfl, hq1, hm1⟩; have HQ1 := Lib.hid hq1)
        | (go_at_call 86; refine (HA.out _ (HQ1.out.alloc _)).mono ?_; rintro e w2 ⟨rfl, hm2⟩))
      refine ⟨rfl, ?_⟩
      exact VerbE.no HX.out (((HM0.out.trans hm1).alloc _).trans hm2)
    | some y =>
      obtain ⟨l, s2⟩ := y
      have hll : l.length ≤ 100000000 ∧ s2.1.length ≤ 100000000 := by
        unfold allS at ha
        split at ha
        · injection ha with ha
          injection ha with h1 h2
          subst h1 h2
          exact ⟨hl1, hl1⟩
        · cases ha
      have HD31 := fun w' hE => dread_any ⟨l.toArray⟩ (by rw [size_arr]; omega) w' hE
      unfold DRead at HD31
      rw [toList_arr] at HD31
      have hal : s2.2 = false := (all_join ha).2
      have HLl := Lib.hid hll
      clear hll hl1
      cases ho : readS (l.length + 1) l 0 with
      | error k =>
        have HX : Hid (loadR s = .error 410) := Lib.hid (by simp [loadR, hn, ha, ho])
        rw [ha] at HA
        rw [ho] at HD31
        have HD31 := Lib.hid HD31
        clear hn ha ho
        go_enter Tryz.func100, Tryz.ntmps100
        go_wp2_with (first
          | (go_at_call 127; refine HN.out.mono ?_; rintro e w1 ⟨rfl, hq1, hm1⟩; have HQ1 := Lib.hid hq1; have HM1 := Lib.hid (HM0.out.trans hm1))
          | (go_at_call 86; refine (HA.out _ (HQ1.out.alloc _)).mono ?_; rintro e w2 ⟨rfl, hq2, hm2⟩; have HM2 := Lib.hid ((HM1.out.alloc _).trans hm2); have HE2 := Lib.hid (HE0.out.moved (((Moved.refl b W0).trans hm1).alloc _ |>.trans hm2)))
          | (go_at_call 13; refine (HD31.out _ HE2.out.env).mono ?_; rintro e w3 ⟨rfl, hb3⟩))
        refine ⟨rfl, ?_⟩
        exact VerbE.no HX.out (HM2.out.trans (Moved.of_below hb3))
      | ok ts =>
        have HX : Hid (loadR s = .ok (C.of 4 n ts, false)) := Lib.hid (by simp [loadR, hn, ha, ho])
        rw [ha] at HA
        rw [ho] at HD31
        have HD31 := Lib.hid HD31
        clear hn ha ho
        go_enter Tryz.func100, Tryz.ntmps100
        go_wp2_with (first
          | (go_at_call 127; refine HN.out.mono ?_; rintro e w1 ⟨rfl, hq1, hm1⟩; have HQ1 := Lib.hid hq1; have HM1 := Lib.hid (HM0.out.trans hm1); have HBV : Hid (b ≠ w1.heap.size) := Lib.hid (by have := hm1.size; have := HD.out.size; omega); have HRV : Hid (w.heap.size ≠ w1.heap.size) := Lib.hid (by have := hm1.size; have := HD.out.size; omega); have hrv : ¬ w.heap.size = w1.heap.size := HRV.out; have hrv2 : ¬ w1.heap.size = w.heap.size := fun e => hrv e.symm)
          | (go_at_call 86; refine (HA.out _ (HQ1.out.alloc _)).mono ?_; rintro e w2 ⟨rfl, hq2, hm2⟩; have HM2 := Lib.hid ((HM1.out.alloc _).trans hm2); have HE2 := Lib.hid (HE0.out.moved (((Moved.refl b W0).trans hm1).alloc _ |>.trans hm2)))
          | (go_at_call 13; refine (HD31.out _ HE2.out.env).mono ?_; rintro e w3 ⟨tv, xs, rfl, hown3, htr3, hb3⟩; obtain ⟨ta, tc, htv, -, -, -⟩ := own_form hown3; subst htv; have HV3 : Hid (Blk w3 w1.heap.size #[.int .i64 4, .int .i64 0, .int .i64 0, .int .i64 0, .int .i64 0, .string ⟨#[]⟩, .slice none 0 0, .int .i64 0, .bool false, .slice none 0 0, .int .i64 n, .slice none 0 0] 47) := Lib.hid (Blk.below (Blk.moved (Blk.new _ _ _) hm2 HBV.out) hb3); obtain ⟨v0, v1, v2, v3, v4, v5, v6, v7, v8, v9, v10, v11⟩ := Blk.c12 HV3.out; have v12 := Blk.free HV3.out 11; have HR3 : Hid (CBox w3 w.heap.size) := Lib.hid (Blk.below (Blk.moved (Blk.alloc (Blk.moved HD.out.bx hm1 HZ.out) _) hm2 HZ.out) hb3); obtain ⟨r0, r1, r2, r3, r4, r5, r6, r7, r8, r9, r10, r11⟩ := CBox.cells HR3.out; obtain ⟨g0, g1, g2, g3, g4, g5, g6, g7, g8, g9, g10, g11⟩ := CBox.free HR3.out))
        refine bodyPost_ret (by simp [results, Tryz.results100, go_sem, r0, r1, r2, r3, r4, r5, r6, r7, r8, r9, r10, r11]; try rfl) rfl ?_
        have hsz : W0.heap.size ≤ w2.heap.size := by have := hm1.size; have := hm2.size; simp at this; omega
        have HC3 : OwnC w3 W0.heap.size ((C.of 4 n ts).val (.slice none 0 0) (.slice none 0 0) (.slice ta ts.length tc)) (C.of 4 n ts) := ⟨_, _, _, xs, rfl, World.ownsRow_nil _ _ _ _, World.ownsRow_nil _ _ _ _, own_mono hsz hown3, TRow.mono htr3 hsz⟩
        refine VerbE.fin (W0 := W0) (w4 := w3.setCell ⟨w1.heap.size, 11, none⟩ (.slice ta ts.length tc)) (l := s2.1) HX.out (HC3.movedR HV3.out (Moved.set w1.heap.size 11 w3 _)) (Blk.setO HR3.out HRV.out _) ?_ HLl.out.2 ?_ hbl (by have := HD.out.size; omega) ?_
        · have := (hq2.below hb3).setO (p := ⟨w1.heap.size, 11, none⟩) (fun e => HBV.out e.symm) (.slice ta ts.length tc)
          have e2 : s2 = (s2.1, false) := by rw [← hal]
          rw [e2] at this
          exact this
        · exact (HM2.out.trans (Moved.of_below hb3)).setO (by have := HRV.out; have := hm1.size; have := HD.out.size; simp only; omega) _
        · exact ((((((((((((Moved.set w.heap.size 0 _ _).trans (Moved.set w.heap.size 1 _ _)).trans (Moved.set w.heap.size 2 _ _)).trans (Moved.set w.heap.size 3 _ _)).trans (Moved.set w.heap.size 4 _ _)).trans (Moved.set w.heap.size 5 _ _)).trans (Moved.set w.heap.size 6 _ _)).trans (Moved.set w.heap.size 7 _ _)).trans (Moved.set w.heap.size 8 _ _)).trans (Moved.set w.heap.size 9 _ _)).trans (Moved.set w.heap.size 10 _ _)).trans (Moved.set w.heap.size 11 _ _))
end Go.Proofs.YtkkildkleleppaaGreatDoor
