/- shell.Parse. The shell's Print. -/
import Derived.Test.YtkkildkleleppaaGreatDoorJ35
import Derived.Test.YtkkildkleleppaaGreatDoorJ30
import Derived.Test.YtkkildkleleppaaGreatDoorJ31
import Derived.Test.YtkkildkleleppaaGreatDoorJ34
namespace Go.Proofs.YtkkildkleleppaaGreatDoor
open Go.RowKit

set_option maxRecDepth 100000 in
set_option maxHeartbeats 1000000 in
theorem idle32 (p q : Addr) (w : World) :
    CallsD Tryz.prog 43 #[.pointer (some p), .pointer (some q)] .returning w fun e u' w' => e = .returned (.tuple #[]) ∧ u' = .returning ∧ w' = w := by
  refine callsD_of_wpS Tryz.func43 rfl fun c₀ cs hu => ?_
  apply wpS_seq
  apply wpS_region
  simp [wpOpsS, go_sem, recoverD, hu, Tryz.ntmps43, Exit.thenS]
  refine wpS_of_wp ?_
  generalize hQ : (fun (e : Exit) (a' : Act) (w' : World) => bodyPostS _ _ _ _ _ e a' _ w') = Q
  have HQ := Lib.hid hQ
  have HU := Lib.hid hu
  clear hQ hu
  change Code.wp _ _ Q { tmps := #[.pointer (some p), .pointer (some q), .nilIface, undef, undef, .nilIface, undef, undef, undef, undef, undef, undef, undef, undef, undef, undef, undef, undef, undef], defers := [] } w
  go_wp2
  rw [← HQ.out]
  have hu := HU.out
  cases c₀
  simp_all [bodyPostS, results, Tryz.results43, go_sem]

/-- A line's command, or the error. -/
def ParseE (w : World) (o : Except Int C) (e : Ending) (w' : World) : Prop :=
  match o with
  | .error n => e = .returned (.tuple #[.agg #[.int .i64 0, .int .i64 0, .int .i64 0, .int .i64 0, .int .i64 0, .string ⟨#[]⟩, .slice none 0 0, .int .i64 0, .bool false, .slice none 0 0, .int .i64 0, .slice none 0 0], .int .i64 n]) ∧ Below w.heap.size w w'
  | .ok c => ∃ v, e = .returned (.tuple #[v, .int .i64 0]) ∧ OwnC w' w.heap.size v c ∧ Below w.heap.size w w'
theorem ParseE.no {w w' : World} {o : Except Int C} {n : Int} (h : o = .error n) (hb : Below w.heap.size w w') : ParseE w o (.returned (.tuple #[.agg #[.int .i64 0, .int .i64 0, .int .i64 0, .int .i64 0, .int .i64 0, .string ⟨#[]⟩, .slice none 0 0, .int .i64 0, .bool false, .slice none 0 0, .int .i64 0, .slice none 0 0], .int .i64 n])) w' := by subst h; exact ⟨rfl, hb⟩
theorem ParseE.yes {w w' : World} {o : Except Int C} {c : C} {v : Value} (h : o = .ok c) (hc : OwnC w' w.heap.size v c) (hb : Below w.heap.size w w') : ParseE w o (.returned (.tuple #[v, .int .i64 0])) w' := by subst h; exact ⟨v, rfl, hc, hb⟩

theorem OwnC.movedT {w w' : World} {B g : Nat} {v : Value} {c : C} {cs : Array Value} {T : TypeId} (h : OwnC w B v c) (hg : Blk w g cs T) (h1 : 80 ≠ T) (h2 : 3 ≠ T) (h3 : 71 ≠ T) (hm : Moved g w w') : OwnC w' B v c := by
  obtain ⟨pv, cv, tv, xs, hv, k1, k2, k3, k4⟩ := h
  refine ⟨pv, cv, tv, xs, hv, own_moved k1 hm (hg.apart k1 h1), own_moved k2 hm (hg.apart k2 h2), own_moved k3 hm (hg.apart k3 h3), k4.1, k4.2.1, fun i t hi => ?_⟩
  obtain ⟨h0, u, hu, hown⟩ := k4.2.2 i t hi
  exact ⟨h0, u, hu, own_moved hown hm (hg.apart hown h1)⟩
theorem ParseE.fin {w W7 W12 : World} {o : Except Int C} {c : C} {v x y : Value} {B : Nat} {cs : Array Value} (ho : o = .ok c) (hc : OwnC W7 B v c) (hB : w.heap.size ≤ B) (hR : Blk W7 w.heap.size cs 47) (hE : Blk W7 (w.heap.size + 1) #[y] 23)
    (h12 : Moved w.heap.size W7 W12) (hb : Below w.heap.size w W7) : ParseE w o (.returned (.tuple #[v, .int .i64 0])) (W12.setCell ⟨w.heap.size + 1, 0, none⟩ x) := by
  have hE2 : Blk W12 (w.heap.size + 1) #[y] 23 := hE.moved h12 (by omega)
  refine ParseE.yes ho (((hc.movedR hR h12).movedT hE2 (by decide) (by decide) (by decide) (Moved.set _ _ _ _)).mono hB) ?_
  exact below_over (below_over hb h12 (Nat.le_refl _) (Nat.le_refl _)) (Moved.set (w.heap.size + 1) 0 _ _) (by omega) (Nat.le_refl _)
set_option maxRecDepth 100000 in
set_option maxHeartbeats 4000000 in
theorem parse_any (l : List UInt8) (hl : l.length ≤ 100000000) (w : World) (hE : Env w) : Calls Tryz.prog 16 #[.string ⟨l.toArray⟩] w (ParseE w (parseS l)) := by
  have hmf : ∀ (fn : Fn) (first cap : Array Value) (w : World), (Instr.makeFunc fn first cap).run Tryz.prog w = .ok (.func fn first cap) w := fun _ _ _ _ => rfl
  obtain ⟨W0, hW0⟩ : ∃ W0, (w.alloc (.cells #[.int .i64 0, .int .i64 0, .int .i64 0, .int .i64 0, .int .i64 0, .string ⟨#[]⟩, .slice none 0 0, .int .i64 0, .bool false, .slice none 0 0, .int .i64 0, .slice none 0 0] 47)).alloc (.cells #[.int .i64 0] 23) = W0 := ⟨_, rfl⟩
  have HB0 : Hid (Below w.heap.size w W0) := Lib.hid (by rw [← hW0]; exact (below_alloc _ _).alloc (by simp) _)
  have HZ0 : Hid (W0.heap.size = w.heap.size + 1 + 1) := Lib.hid (by rw [← hW0]; simp)
  have HR0 : Hid (CBox W0 w.heap.size) := Lib.hid (by rw [← hW0]; exact Blk.alloc (Blk.new _ _ _) _)
  have HQ0 : Hid (Blk W0 (w.heap.size + 1) #[.int .i64 0] 23) := Lib.hid (by have h := Blk.new (w.alloc (.cells #[.int .i64 0, .int .i64 0, .int .i64 0, .int .i64 0, .int .i64 0, .string ⟨#[]⟩, .slice none 0 0, .int .i64 0, .bool false, .slice none 0 0, .int .i64 0, .slice none 0 0] 47)) #[.int .i64 0] 23; rw [show (w.alloc (.cells #[.int .i64 0, .int .i64 0, .int .i64 0, .int .i64 0, .int .i64 0, .string ⟨#[]⟩, .slice none 0 0, .int .i64 0, .bool false, .slice none 0 0, .int .i64 0, .slice none 0 0] 47)).heap.size = w.heap.size + 1 by simp] at h; rw [← hW0]; exact h)
  have HE0 := Lib.hid (hE.below HB0.out)
  have hC := fun w' hE => Cut_any ⟨l.toArray⟩ ⟨#[32]⟩ w' hE (by rw [size_arr]; omega)
  have e1 : Lib.cut (⟨l.toArray⟩ : ByteArray).data.toList (⟨#[32]⟩ : ByteArray).data.toList = cutX true false l := by
    rw [toList_arr]; exact cut_cutX l
  simp only [e1] at hC
  have hx2 := (cutX_len true false l).2
  have HP : Hid (parseS l = match verbNo (cutX true false l).1 with
    | none => .error 420
    | some i => match verbR i (cutX true false l).2 with
      | .error e => .error e
      | .ok x => if x.2 then .error 421 else .ok x.1) := Lib.hid rfl
  have HC := Lib.hid hC
  clear hC e1 hE
  generalize cutX true false l = x at HP HC hx2
  obtain ⟨wd, s⟩ := x
  simp only at hx2
  have hs : s.1.length ≤ 100000000 := by omega
  have HPn := HP.out
  simp only at HPn
  cases hn : verbNo wd with
  | none =>
    rw [hn] at HPn
    have HX : Hid (parseS l = .error 420) := Lib.hid HPn
    have HI : Hid (idxOf wd = -1) := Lib.hid (by rw [idxOf, hn])
    clear HPn hn
    go_enter_defers Tryz.func16, Tryz.ntmps16
    go_wp2_with (first
      | (go_at_call 39; refine (HC.out _ HE0.out).mono ?_; rintro e w2 ⟨rfl, hb2⟩; have HE2 := Lib.hid (HE0.out.below hb2))
      | (go_at_call 40; refine (verbs_any _ (HE2.out.below (below_alloc _ _))).mono ?_; rintro e w3 ⟨g, rfl, hv3, hb3⟩; have HV3 := Lib.hid hv3; have k3 : w3.cell? ⟨w2.heap.size, 0, none⟩ = some (.string ⟨wd.toArray⟩) := (box_cell (hb3.mono (by simp)) 0); have HB3 : Hid (Below W0.heap.size W0 w3) := Lib.hid ((hb2.alloc hb2.size _).trans (hb3.mono (by have := hb2.size; simp; omega))))
      | (go_at_call 41; refine (index_any g _ wd _ HV3.out k3).mono ?_; rw [HI.out]; rintro e w4 ⟨rfl, hb4⟩; have HR4 := Lib.hid (Blk.below (Blk.below HR0.out HB3.out) hb4); have HQ4 := Lib.hid (Blk.below (Blk.below HQ0.out HB3.out) hb4); obtain ⟨r0, r1, r2, r3, r4, r5, r6, r7, r8, r9, r10, r11⟩ := CBox.cells HR4.out; obtain ⟨g0, g1, g2, g3, g4, g5, g6, g7, g8, g9, g10, g11⟩ := CBox.free HR4.out; have q0 : w4.cell? ⟨w.heap.size + 1, 0, none⟩ = some (.int .i64 0) := Blk.cell HQ4.out 0; have q1 := Blk.free HQ4.out 0))
    have HB4 : Hid (Below w.heap.size w w4) := Lib.hid (HB0.out.trans ((HB3.out.trans (hb4.mono HB3.out.size)).mono HB0.out.size))
    simp [bodyPostD, Leaves, results, Tryz.results16, go_sem, r0, r1, r2, r3, r4, r5, r6, r7, r8, r9, r10, r11, q0]
    refine ParseE.no HX.out ?_
    refine below_over (below_over HB4.out ((((((((((((Moved.set w.heap.size 0 _ _).trans (Moved.set w.heap.size 1 _ _)).trans (Moved.set w.heap.size 2 _ _)).trans (Moved.set w.heap.size 3 _ _)).trans (Moved.set w.heap.size 4 _ _)).trans (Moved.set w.heap.size 5 _ _)).trans (Moved.set w.heap.size 6 _ _)).trans (Moved.set w.heap.size 7 _ _)).trans (Moved.set w.heap.size 8 _ _)).trans (Moved.set w.heap.size 9 _ _)).trans (Moved.set w.heap.size 10 _ _)).trans (Moved.set w.heap.size 11 _ _)) (Nat.le_refl _) (Nat.le_refl _)) (Moved.set (w.heap.size + 1) 0 _ _) (by omega) (Nat.le_refl _)
  | some i =>
    obtain ⟨hi, -⟩ := verbNo_some hn
    rw [hn] at HPn
    simp only at HPn
    have HI : Hid (idxOf wd = i) := Lib.hid (by rw [idxOf, hn])
    have i0 : (0 : Int) ≤ (i : Int) := Int.natCast_nonneg _
    have i1 : (i : Int) < 17 := by omega
    have HPx := Lib.hid HPn
    clear HPn hn
    go_enter_defers Tryz.func16, Tryz.ntmps16
    go_upto_region 8 with (first
      | (go_at_call 39; refine (HC.out _ HE0.out).mono ?_; rintro e w2 ⟨rfl, hb2⟩; have HE2 := Lib.hid (HE0.out.below hb2))
      | (go_at_call 40; refine (verbs_any _ (HE2.out.below (below_alloc _ _))).mono ?_; rintro e w3 ⟨g, rfl, hv3, hb3⟩; have HV3 := Lib.hid hv3; have k3 : w3.cell? ⟨w2.heap.size, 0, none⟩ = some (.string ⟨wd.toArray⟩) := (box_cell (hb3.mono (by simp)) 0); have HB3 : Hid (Below W0.heap.size W0 w3) := Lib.hid ((hb2.alloc hb2.size _).trans (hb3.mono (by have := hb2.size; simp; omega))))
      | (go_at_call 41; refine (index_any g _ wd _ HV3.out k3).mono ?_; rw [HI.out]; rintro e w4 ⟨rfl, hb4⟩))
    generalize hW5 : w4.alloc (.cells #[.string ⟨s.1.toArray⟩, .bool s.2] 112) = W5
    have HB4 : Hid (Below W0.heap.size W0 w4) := Lib.hid (HB3.out.trans (hb4.mono HB3.out.size))
    have HBw : Hid (Below w.heap.size w w4) := Lib.hid (HB0.out.trans (HB4.out.mono HB0.out.size))
    have HB5 : Hid (Below w4.heap.size w4 W5) := Lib.hid (by rw [← hW5]; exact below_alloc _ _)
    have HZ5 : Hid (W5.heap.size = w4.heap.size + 1) := Lib.hid (by rw [← hW5]; simp)
    have HQ5 : IsQ W5 w4.heap.size s := by rw [← hW5]; exact ⟨Blk.cell (Blk.new _ _ _) 0, Blk.cell (Blk.new _ _ _) 1, Blk.free (Blk.new _ _ _) 0, Blk.free (Blk.new _ _ _) 1⟩
    have HR5 : Hid (CBox W5 w.heap.size) := Lib.hid (Blk.below (Blk.below HR0.out HB4.out) HB5.out)
    have HE5 : Hid (Blk W5 (w.heap.size + 1) #[.int .i64 0] 23) := Lib.hid (Blk.below (Blk.below HQ0.out HB4.out) HB5.out)
    obtain ⟨K, cap, K', cap', c0, c1, -, hvp⟩ := HV3.out.below hb4 i hi
    have d1 := (HB5.out.cell (lt_of_cell c1)).trans c1
    have hcf : ∀ (args : Array Value) (w : World), (callFunc K args).run Tryz.prog w = .ok (.enter K args) w := hvp.ent
    have hRd := hvp.reads W5 w4.heap.size s HB5.out (Nat.le_refl _) HQ5 hs
    have HZw : Hid (w.heap.size + 1 < w4.heap.size) := Lib.hid (by have h1 := HZ0.out; have h2 := HB4.out.size; omega)
    clear hW5 hvp c0 c1 HQ5 k3 hb4 hb3 hb2 hv3
    have HBc : Hid (Below w.heap.size w W5) := Lib.hid (HBw.out.trans (HB5.out.mono HBw.out.size))
    cases hv : verbR i s with
    | error n =>
      have HPy := HPx.out
      rw [hv] at HPy
      have HX : Hid (parseS l = .error n) := Lib.hid HPy
      rw [hv] at hRd
      have HRd := Lib.hid hRd
      clear hRd HPy hv
      go_wp2_with ((with_reducible refine HRd.out.mono ?_); rintro e w6 ⟨rfl, hm6⟩)
      have HR6 := Blk.moved HR5.out hm6 (by have := HZw.out; omega)
      have HE6 := Blk.moved HE5.out hm6 (by have := HZw.out; omega)
      have HB6 := below_over HBc.out hm6 (by have := HZw.out; omega) (Nat.le_refl _)
      refine leaves_cons (f := 43) (args := #[.pointer (some ⟨w.heap.size, 0, none⟩), .pointer (some ⟨w.heap.size + 1, 0, none⟩)]) (by simp) (by simp [go_sem]) ?_
      refine (catch32 n w.heap.size (w.heap.size + 1) w.heap.size _ _ _ _ _ _ _ _ _ _ _ _ _ w6 HR6 HE6 (by omega) (Nat.le_refl _) (by omega) (HB6).size).mono ?_
      rintro e u' w7 ⟨rfl, rfl, hc7, hq7, hb7⟩
      obtain ⟨s0, s1, s2, s3, s4, s5, s6, s7, s8, s9, s10, s11⟩ := CBox.cells hc7
      simp [Leaves, settle, results, Tryz.results16, go_sem, s0, s1, s2, s3, s4, s5, s6, s7, s8, s9, s10, s11, hq7]
      exact ParseE.no HX.out ((HB6).trans hb7)
    | ok x =>
      obtain ⟨c, m⟩ := x
      have HPy := HPx.out
      rw [hv] at HPy
      simp only at HPy
      rw [hv] at hRd
      have HRd := Lib.hid hRd
      clear hRd hv
      go_upto_region 9 with ((with_reducible refine HRd.out.mono ?_); rintro e w6 ⟨v, l6, rfl, ⟨pv, cv, tv, xs, hve, ho1, ho2, ho3, htr⟩, hq6, hl6, hm6⟩; obtain ⟨pa, pc, hpv, -, -, -⟩ := own_form ho1; obtain ⟨ca, cc, hcv, -, -, -⟩ := own_form ho2; obtain ⟨ta, tc, htv, -, -, -⟩ := own_form ho3; subst hpv hcv htv; unfold C.val cmdV at hve; subst hve; have HR6 := Lib.hid (Blk.moved HR5.out hm6 (by have := HZw.out; omega)); obtain ⟨r0, r1, r2, r3, r4, r5, r6, r7, r8, r9, r10, r11⟩ := CBox.cells HR6.out; obtain ⟨g0, g1, g2, g3, g4, g5, g6, g7, g8, g9, g10, g11⟩ := CBox.free HR6.out)
      generalize hW7 : ((((((((((((w6.setCell ⟨w.heap.size, 0, none⟩ (.int .i64 c.k)).setCell ⟨w.heap.size, 1, none⟩ (.int .i64 c.ak)).setCell ⟨w.heap.size, 2, none⟩ (.int .i64 c.ek)).setCell ⟨w.heap.size, 3, none⟩ (.int .i64 c.ec)).setCell ⟨w.heap.size, 4, none⟩ (.int .i64 c.es)).setCell ⟨w.heap.size, 5, none⟩ (.string c.sql)).setCell ⟨w.heap.size, 6, none⟩ (.slice pa c.ps.length pc)).setCell ⟨w.heap.size, 7, none⟩ (.int .i64 c.n)).setCell ⟨w.heap.size, 8, none⟩ (.bool c.log)).setCell ⟨w.heap.size, 9, none⟩ (.slice ca c.ch.length cc)).setCell ⟨w.heap.size, 10, none⟩ (.int .i64 c.conn)).setCell ⟨w.heap.size, 11, none⟩ (.slice ta c.told.length tc)) = W7
      have hm12 : Moved w.heap.size w6 W7 := by rw [← hW7]; exact ((((((((((((Moved.set w.heap.size 0 _ _).trans (Moved.set w.heap.size 1 _ _)).trans (Moved.set w.heap.size 2 _ _)).trans (Moved.set w.heap.size 3 _ _)).trans (Moved.set w.heap.size 4 _ _)).trans (Moved.set w.heap.size 5 _ _)).trans (Moved.set w.heap.size 6 _ _)).trans (Moved.set w.heap.size 7 _ _)).trans (Moved.set w.heap.size 8 _ _)).trans (Moved.set w.heap.size 9 _ _)).trans (Moved.set w.heap.size 10 _ _)).trans (Moved.set w.heap.size 11 _ _))
      have HR7 : Hid (Blk W7 w.heap.size #[.int .i64 c.k, .int .i64 c.ak, .int .i64 c.ek, .int .i64 c.ec, .int .i64 c.es, .string c.sql, .slice pa c.ps.length pc, .int .i64 c.n, .bool c.log, .slice ca c.ch.length cc, .int .i64 c.conn, .slice ta c.told.length tc] 47) := Lib.hid (by rw [← hW7]; exact Blk.set12 HR6.out)
      have HE7 : Hid (Blk W7 (w.heap.size + 1) #[.int .i64 0] 23) := Lib.hid (Blk.moved (Blk.moved HE5.out hm6 (by have := HZw.out; omega)) hm12 (by omega))
      have HC7 := Lib.hid (OwnC.movedR (v := c.val (.slice pa c.ps.length pc) (.slice ca c.ch.length cc) (.slice ta c.told.length tc)) ⟨_, _, _, xs, rfl, ho1, ho2, ho3, htr⟩ HR6.out hm12)
      have hq7 := hq6.moved hm12 (by have := HZw.out; omega)
      have HB7 : Hid (Below w.heap.size w W7) := Lib.hid (below_over (below_over HBc.out hm6 (by have := HZw.out; omega) (Nat.le_refl _)) hm12 (Nat.le_refl _) (Nat.le_refl _))
      have y1 := hq7.2.1
      simp only at y1
      clear hW7 r0 r1 r2 r3 r4 r5 r6 r7 r8 r9 r10 r11 g0 g1 g2 g3 g4 g5 g6 g7 g8 g9 g10 g11 ho1 ho2 ho3 htr hq6 hm6 hm12 hq7
      cases m with
      | true =>
        have HX : Hid (parseS l = .error 421) := Lib.hid HPy
        clear HPy
        go_wp2_with (go_at_call 44; refine (sneed_no _).mono ?_; rintro e w8 ⟨rfl, rfl⟩)
        have hB7 := HB7.out
        have hR7 := HR7.out
        have hE7 := HE7.out
        refine leaves_cons (f := 43) (args := #[.pointer (some ⟨w.heap.size, 0, none⟩), .pointer (some ⟨w.heap.size + 1, 0, none⟩)]) (by simp) (by simp [go_sem]) ?_
        refine (catch32 421 w.heap.size (w.heap.size + 1) w.heap.size _ _ _ _ _ _ _ _ _ _ _ _ _ w8 hR7 hE7 (by omega) (Nat.le_refl _) (by omega) (hB7).size).mono ?_
        rintro e u' w7 ⟨rfl, rfl, hc7, hq7, hb7⟩
        obtain ⟨s0, s1, s2, s3, s4, s5, s6, s7, s8, s9, s10, s11⟩ := CBox.cells hc7
        simp [Leaves, settle, results, Tryz.results16, go_sem, s0, s1, s2, s3, s4, s5, s6, s7, s8, s9, s10, s11, hq7]
        exact ParseE.no HX.out ((hB7).trans hb7)
      | false =>
        have HX : Hid (parseS l = .ok c) := Lib.hid HPy
        obtain ⟨r0, r1, r2, r3, r4, r5, r6, r7, r8, r9, r10, r11⟩ := Blk.c12 HR7.out
        have g0 := Blk.free HR7.out 0
        have g1 := Blk.free HR7.out 1
        have g2 := Blk.free HR7.out 2
        have g3 := Blk.free HR7.out 3
        have g4 := Blk.free HR7.out 4
        have g5 := Blk.free HR7.out 5
        have g6 := Blk.free HR7.out 6
        have g7 := Blk.free HR7.out 7
        have g8 := Blk.free HR7.out 8
        have g9 := Blk.free HR7.out 9
        have g10 := Blk.free HR7.out 10
        have g11 := Blk.free HR7.out 11
        have z0 : W7.cell? ⟨w.heap.size + 1, 0, none⟩ = some (.int .i64 0) := Blk.cell HE7.out 0
        have z1 := Blk.free HE7.out 0
        clear HPy
        go_wp2_with (go_at_call 44; refine (sneed_ok _).mono ?_; rintro e w8 ⟨rfl, rfl⟩)
        refine leaves_cons (f := 43) (args := #[.pointer (some ⟨w.heap.size, 0, none⟩), .pointer (some ⟨w.heap.size + 1, 0, none⟩)]) (by simp) (by simp [go_sem]) ?_
        refine (idle32 _ _ _).mono ?_
        rintro e u' w9 ⟨rfl, rfl, rfl⟩
        simp [Leaves, settle, results, Tryz.results16, go_sem, r0, r1, r2, r3, r4, r5, r6, r7, r8, r9, r10, r11, z0]
        refine ParseE.fin (W7 := w8) HX.out HC7.out (by have h1 := HZw.out; have h2 := HZ5.out; omega) HR7.out HE7.out ?_ HB7.out
        exact ((((((((((((Moved.set w.heap.size 0 _ _).trans (Moved.set w.heap.size 1 _ _)).trans (Moved.set w.heap.size 2 _ _)).trans (Moved.set w.heap.size 3 _ _)).trans (Moved.set w.heap.size 4 _ _)).trans (Moved.set w.heap.size 5 _ _)).trans (Moved.set w.heap.size 6 _ _)).trans (Moved.set w.heap.size 7 _ _)).trans (Moved.set w.heap.size 8 _ _)).trans (Moved.set w.heap.size 9 _ _)).trans (Moved.set w.heap.size 10 _ _)).trans (Moved.set w.heap.size 11 _ _))
end Go.Proofs.YtkkildkleleppaaGreatDoor
namespace Go.Proofs.YtkkildkleleppaaGreatDoor
open Go.RowKit

theorem FitC.len {c : C} (h : FitC c) : LenC c := ⟨Nat.le_trans h.psl (by decide), Nat.le_trans h.chl (by decide), Nat.le_trans h.tl (by decide), fun t ht => Nat.le_trans (h.tps t ht) (by decide)⟩
theorem printV_hit {c : C} {k : Nat} (hk : k < 17) (h : tryV c k = true) (hb : ∀ j, j < k → tryV c j = false) : printV c = (verbW k ++ (verbT k c).1, 0) := by
  have e : (List.range 17).find? (tryV c) = some k := by
    rw [List.find?_eq_some_iff_getElem]
    refine ⟨h, k, by simpa using hk, by simp, fun j hj => ?_⟩
    simp only [List.getElem_range, Bool.not_eq_true']
    exact hb j hj
  unfold printV
  rw [e]
theorem printV_miss {c : C} (h : ∀ j, j < 17 → tryV c j = false) : printV c = ([], 2) := by
  have e : (List.range 17).find? (tryV c) = none := by
    rw [List.find?_eq_none]
    intro j hj
    simpa using h j (List.mem_range.1 hj)
  unfold printV
  rw [e]
theorem verb_err {i : Nat} {s : St} {n : Int} (h : verbR i s = .error n) : n = 421 ∨ n = 410 := by
  have hw : ∀ {o : Option (C × Bool)}, words o = .error n → n = 421 := by
    intro o ho
    cases o with
    | none => cases ho; rfl
    | some x => cases ho
  unfold verbR at h
  split at h
  · cases h
  · cases h
  · exact .inl (hw h)
  · exact .inl (hw h)
  · exact .inl (hw h)
  · cases h
  · cases h
  · unfold loadR at h
    split at h
    · cases h; exact .inl rfl
    · split at h
      · cases h; exact .inl rfl
      · split at h
        · cases h; exact .inr rfl
        · cases h
  · exact .inl (hw h)
theorem parse_err {l : List UInt8} {n : Int} (h : parseS l = .error n) : n ≠ 0 := by
  unfold parseS at h
  split at h
  · cases h; decide
  · split at h
    · rename_i hv
      cases h
      rcases verb_err hv with rfl | rfl <;> decide
    · split at h
      · cases h; decide
      · cases h

set_option maxRecDepth 100000 in
set_option maxHeartbeats 4000000 in
theorem sprint_any (v : Value) (c : C) (hf : FitC c) (w : World) (hE : Env w) (h : IsC w v c) : Calls Tryz.prog 20 #[v] w (Ret w (.tuple #[.string ⟨(printV c).1.toArray⟩, .int .i64 (printV c).2])) := by
  obtain ⟨pa, pc, ca, cc, ta, tc, hv, i1, i2, i3, i4, i5, i6⟩ := h
  unfold C.val cmdV at hv
  subst hv
  have HI0 : Hid (IsC w (.agg #[.int .i64 c.k, .int .i64 c.ak, .int .i64 c.ek, .int .i64 c.ec, .int .i64 c.es, .string c.sql, .slice pa c.ps.length pc, .int .i64 c.n, .bool c.log, .slice ca c.ch.length cc, .int .i64 c.conn, .slice ta c.told.length tc]) c) := Lib.hid ⟨pa, pc, ca, cc, ta, tc, rfl, i1, i2, i3, i4, i5, i6⟩
  clear i1 i2 i3 i4 i5 i6
  have HF := Lib.hid hf
  obtain ⟨W0, hW0⟩ : ∃ W0, w.alloc (.cells #[.int .i64 c.k, .int .i64 c.ak, .int .i64 c.ek, .int .i64 c.ec, .int .i64 c.es, .string c.sql, .slice pa c.ps.length pc, .int .i64 c.n, .bool c.log, .slice ca c.ch.length cc, .int .i64 c.conn, .slice ta c.told.length tc] 47) = W0 := ⟨_, rfl⟩
  have HB0 : Hid (Below w.heap.size w W0) := Lib.hid (by rw [← hW0]; exact below_alloc _ _)
  have HX0 : Hid (Blk W0 w.heap.size #[.int .i64 c.k, .int .i64 c.ak, .int .i64 c.ek, .int .i64 c.ec, .int .i64 c.es, .string c.sql, .slice pa c.ps.length pc, .int .i64 c.n, .bool c.log, .slice ca c.ch.length cc, .int .i64 c.conn, .slice ta c.told.length tc] 47) := Lib.hid (by rw [← hW0]; exact Blk.new _ _ _)
  have HE0 : Hid (Env W0) := Lib.hid (hE.below HB0.out)
  clear hE hf
  go_enter Tryz.func20, Tryz.ntmps20
  go_wp2_with (go_at_call 40; refine (verbs_any _ HE0.out).mono ?_; rintro e w1 ⟨g, rfl, hv1, hb1⟩)
  have HV1 := Lib.hid hv1
  have HX1 : Hid (Blk w1 w.heap.size #[.int .i64 c.k, .int .i64 c.ak, .int .i64 c.ek, .int .i64 c.ec, .int .i64 c.es, .string c.sql, .slice pa c.ps.length pc, .int .i64 c.n, .bool c.log, .slice ca c.ch.length cc, .int .i64 c.conn, .slice ta c.told.length tc] 47) := Lib.hid (Blk.below HX0.out hb1)
  have HE1 : Hid (Env w1) := Lib.hid (HE0.out.below hb1)
  have HB1 : Hid (Below w.heap.size w w1) := Lib.hid (bthn HB0.out hb1)
  have HI1 : Hid (IsC w1 (.agg #[.int .i64 c.k, .int .i64 c.ak, .int .i64 c.ek, .int .i64 c.ec, .int .i64 c.es, .string c.sql, .slice pa c.ps.length pc, .int .i64 c.n, .bool c.log, .slice ca c.ch.length cc, .int .i64 c.conn, .slice ta c.told.length tc]) c) := Lib.hid (HI0.out.below HB1.out)
  clear hv1 hb1 hW0
  go_loopw [12] (fun i wr => ∃ k : Nat, k ≤ 17 ∧ i = .int .i64 k ∧ Below w1.heap.size w1 wr ∧ Hid (∀ j, j < k → tryV c j = false)) (fun i _ => 17 - (intOf i).toNat)
  case atStart => exact ⟨0, by omega, rfl, Below.refl _ _, Lib.hid (by intro j hj; omega)⟩
  case round =>
    obtain ⟨k, hk, rfl, hb, HA⟩ := hrel
    have HBr := Lib.hid hb
    by_cases hlt : k < 17
    · obtain ⟨K, cap, K', cap', c0, c1, c2, hvp⟩ := HV1.out.below hb k hlt
      have i0 : (0 : Int) ≤ (k : Int) := Int.natCast_nonneg _
      have i1 : (k : Int) < 17 := by omega
      have HL : Hid ((verbW k).length ≤ 10 ∧ (verbT k c).1.length ≤ 31000000) := Lib.hid ⟨verbW_len k, verbT_len k HF.out⟩
      have HT : Hid (tryV c k = ((verbT k c).2 && readAs c (verbW k ++ (verbT k c).1))) := Lib.hid rfl
      clear hb
      go_upto_region 4 with fail
      generalize hW3 : wr.alloc (Obj.cells #[.string ⟨(verbW k).toArray⟩, .func (.func K) #[] cap, .func (.func K') #[] cap'] 105) = W3
      have HP3 : Hid (Blk W3 wr.heap.size #[.string ⟨(verbW k).toArray⟩, .func (.func K) #[] cap, .func (.func K') #[] cap'] 105) := Lib.hid (by rw [← hW3]; exact Blk.new _ _ _)
      have HB3 : Hid (Below w1.heap.size w1 W3) := Lib.hid (by rw [← hW3]; exact bthn HBr.out (below_alloc _ _))
      have hb3 : Below wr.heap.size wr W3 := by rw [← hW3]; exact below_alloc _ _
      have HW := Lib.hid (hvp.writes W3 (.agg #[.int .i64 c.k, .int .i64 c.ak, .int .i64 c.ek, .int .i64 c.ec, .int .i64 c.es, .string c.sql, .slice pa c.ps.length pc, .int .i64 c.n, .bool c.log, .slice ca c.ch.length cc, .int .i64 c.conn, .slice ta c.told.length tc]) c hb3 HF.out (HI1.out.below HB3.out))
      have hcf : ∀ (args : Array Value) (w : World), (callFunc K' args).run Tryz.prog w = .ok (.enter K' args) w := hvp.ent'
      have e0 : W3.cell? ⟨wr.heap.size, 0, none⟩ = some (.string ⟨(verbW k).toArray⟩) := Blk.cell HP3.out 0
      have e2 : W3.cell? ⟨wr.heap.size, 2, none⟩ = some (.func (.func K') #[] cap') := Blk.cell HP3.out 2
      obtain ⟨u0, u1, u2, u3, u4, u5, u6, u7, u8, u9, u10, u11⟩ := Blk.c12 (Blk.below HX1.out HB3.out)
      clear hW3 c0 c1 c2 hvp hb3
      generalize hx : verbT k c = x at HW HT HL
      obtain ⟨x, ok⟩ := x
      have HVx := Lib.hid hx
      clear hx
      simp only at HW HT HL
      cases ok with
      | false =>
        have HA2 : Hid (∀ j, j < k + 1 → tryV c j = false) := Lib.hid (by
          intro j hj
          by_cases hjk : j = k
          · subst hjk; rw [HT.out]; rfl
          · exact HA.out j (by omega))
        go_wp2_with ((with_reducible refine HW.out.mono ?_); rintro e w4 ⟨rfl, hb4⟩; have HBn : Hid (Below w1.heap.size w1 w4) := Lib.hid (bthn HB3.out hb4))
        go_roundw
        case rel => exact ⟨k + 1, by omega, by go_num, HBn.out, HA2⟩
        case measure => simp [intOf]; omega
      | true =>
        have l1 := HL.out.1
        have l2 := HL.out.2
        have hcat := cat_str (verbW k) x
        have hP := fun w' hE => parse_any (verbW k ++ x) (by have := HL.out; simp; omega) w' hE
        rw [← hcat] at hP
        have HT2 : Hid (tryV c k = readAs c (verbW k ++ x)) := Lib.hid (by rw [HT.out]; rfl)
        clear HT hcat
        cases hp : parseS (verbW k ++ x) with
        | error n =>
          rw [hp] at hP
          have hn := parse_err hp
          have hn2 : (n == 0) = false := by simp [hn]
          have HA2 : Hid (∀ j, j < k + 1 → tryV c j = false) := Lib.hid (by
            intro j hj
            by_cases hjk : j = k
            · subst hjk; rw [HT2.out]; unfold readAs; rw [hp]
            · exact HA.out j (by omega))
          have HP := Lib.hid hP
          clear hP hp
          go_wp2_with (first
            | (go_at_call 16; refine (HP.out _ (HE1.out.below HB4.out)).mono ?_; rintro e w5 ⟨rfl, hb5⟩; have HBn : Hid (Below w1.heap.size w1 (w5.alloc (Obj.cells #[.int .i64 0, .int .i64 0, .int .i64 0, .int .i64 0, .int .i64 0, .string ⟨#[]⟩, .slice none 0 0, .int .i64 0, .bool false, .slice none 0 0, .int .i64 0, .slice none 0 0] 47))) := Lib.hid (bthn (bthn HB4.out hb5) (below_alloc _ _)))
            | ((with_reducible refine HW.out.mono ?_); rintro e w4 ⟨rfl, hb4⟩; have HB4 : Hid (Below w1.heap.size w1 w4) := Lib.hid (bthn HB3.out hb4); have e0 : w4.cell? ⟨wr.heap.size, 0, none⟩ = some (.string ⟨(verbW k).toArray⟩) := (hb4.cell (lt_of_cell e0)).trans e0))
          go_roundw
          case rel => exact ⟨k + 1, by omega, by go_num, HBn.out, HA2⟩
          case measure => simp [intOf]; omega
        | ok d =>
          rw [hp] at hP
          have HLd := Lib.hid (parse_len hp (by have := HL.out; simp; omega))
          have HR : Hid (tryV c k = sameC c d) := Lib.hid (by rw [HT2.out]; unfold readAs; rw [hp])
          have HP := Lib.hid hP
          clear hP hp HT2
          go_upto_region 7 with (first
            | (go_at_call 16; refine (HP.out _ (HE1.out.below HB4.out)).mono ?_; rintro e w5 ⟨vd, rfl, hown, hb5⟩; have HId := Lib.hid hown.is; obtain ⟨qv, rv, sv, xs, hve, ho1, ho2, ho3, htr⟩ := hown; obtain ⟨qa, qc, hpv, -, -, -⟩ := own_form ho1; obtain ⟨da, dc, hcv, -, -, -⟩ := own_form ho2; obtain ⟨sa, sc, htv, -, -, -⟩ := own_form ho3; subst hpv hcv htv; unfold C.val cmdV at hve; subst hve; clear ho1 ho2 ho3 htr)
            | ((with_reducible refine HW.out.mono ?_); rintro e w4 ⟨rfl, hb4⟩; have HB4 : Hid (Below w1.heap.size w1 w4) := Lib.hid (bthn HB3.out hb4); have e0 : w4.cell? ⟨wr.heap.size, 0, none⟩ = some (.string ⟨(verbW k).toArray⟩) := (hb4.cell (lt_of_cell e0)).trans e0))
          generalize hW6 : w5.alloc (Obj.cells #[.int .i64 d.k, .int .i64 d.ak, .int .i64 d.ek, .int .i64 d.ec, .int .i64 d.es, .string d.sql, .slice qa d.ps.length qc, .int .i64 d.n, .bool d.log, .slice da d.ch.length dc, .int .i64 d.conn, .slice sa d.told.length sc] 47) = W6
          have hb6 : Below w5.heap.size w5 W6 := by rw [← hW6]; exact below_alloc _ _
          have HB6 : Hid (Below w1.heap.size w1 W6) := Lib.hid (bthn (bthn HB4.out hb5) hb6)
          have hD6 : Blk W6 w5.heap.size #[.int .i64 d.k, .int .i64 d.ak, .int .i64 d.ek, .int .i64 d.ec, .int .i64 d.es, .string d.sql, .slice qa d.ps.length qc, .int .i64 d.n, .bool d.log, .slice da d.ch.length dc, .int .i64 d.conn, .slice sa d.told.length sc] 47 := by rw [← hW6]; exact Blk.new _ _ _
          have e0 : W6.cell? ⟨wr.heap.size, 0, none⟩ = some (.string ⟨(verbW k).toArray⟩) := ((bthn hb5 hb6).cell (lt_of_cell e0)).trans e0
          have HS := Lib.hid (fun w' (hb : Below W6.heap.size W6 w') => ssame_any (.agg #[.int .i64 c.k, .int .i64 c.ak, .int .i64 c.ek, .int .i64 c.ec, .int .i64 c.es, .string c.sql, .slice pa c.ps.length pc, .int .i64 c.n, .bool c.log, .slice ca c.ch.length cc, .int .i64 c.conn, .slice ta c.told.length tc]) (.agg #[.int .i64 d.k, .int .i64 d.ak, .int .i64 d.ek, .int .i64 d.ec, .int .i64 d.es, .string d.sql, .slice qa d.ps.length qc, .int .i64 d.n, .bool d.log, .slice da d.ch.length dc, .int .i64 d.conn, .slice sa d.told.length sc]) c d HF.out.len HLd.out w' ((HI1.out.below HB6.out).below hb) ((HId.out.below hb6).below hb))
          clear u0 u1 u2 u3 u4 u5 u6 u7 u8 u9 u10 u11
          obtain ⟨u0, u1, u2, u3, u4, u5, u6, u7, u8, u9, u10, u11⟩ := Blk.c12 (Blk.below HX1.out HB6.out)
          obtain ⟨d0, d1, d2, d3, d4, d5, d6, d7, d8, d9, d10, d11⟩ := Blk.c12 hD6
          clear hW6 hb5 hb6 hD6 hb4
          cases hs : sameC c d with
          | false =>
            rw [hs] at HS HR
            have HA2 : Hid (∀ j, j < k + 1 → tryV c j = false) := Lib.hid (by
              intro j hj
              by_cases hjk : j = k
              · subst hjk; exact HR.out
              · exact HA.out j (by omega))
            clear hs
            go_wp2_with (go_at_call 53; refine (HS.out _ (Below.refl _ _)).mono ?_; rintro e w7 ⟨rfl, hb7⟩; have HBn : Hid (Below w1.heap.size w1 w7) := Lib.hid (bthn HB6.out hb7))
            go_roundw
            case rel => exact ⟨k + 1, by omega, by go_num, HBn.out, HA2⟩
            case measure => simp [intOf]; omega
          | true =>
            rw [hs] at HS HR
            have HX : Hid (printV c = (verbW k ++ x, 0)) := Lib.hid (by have h := printV_hit hlt HR.out HA.out; rw [HVx.out] at h; exact h)
            clear hs
            go_wp2_with (go_at_call 53; refine (HS.out _ (Below.refl _ _)).mono ?_; rintro e w7 ⟨rfl, hb7⟩; have e0 : w7.cell? ⟨wr.heap.size, 0, none⟩ = some (.string ⟨(verbW k).toArray⟩) := (hb7.cell (lt_of_cell e0)).trans e0)
            go_ret2
            rw [HX.out, cat_str]
            exact ⟨rfl, bthn (bthn HB1.out HB6.out) hb7⟩
    · have hkn : k = 17 := by omega
      subst hkn
      have HX := Lib.hid (printV_miss HA.out)
      go_wp2
      go_ret2
      rw [HX.out]
      exact ⟨rfl, bthn HB1.out HBr.out⟩
end Go.Proofs.YtkkildkleleppaaGreatDoor
