/- The document's events: a text follows. The document's events: values and a text follow. -/
import Derived.Test.YtkkildkleleppaaGreatDoorJ42
namespace Go.Proofs.YtkkildkleleppaaGreatDoor
open Go.RowKit

set_option maxRecDepth 100000 in
set_option maxHeartbeats 4000000 in
/-- A text follows: exec. -/
theorem revent_t1a (K : Int) (sl : Bool) (hsl0 : sl = false) (s s1 s2 : St) (n m : Int) (HS : ∀ w', Calls Tryz.prog 104 #[.int .i64 K] w' (Ret w' (.bool sl))) (hs : s.1.length ≤ 100000000) (hn : numS s = some (n, s1)) (hsl : slotR sl s1 = some (m, s2)) (w : World) (o : Option (C × Bool)) (ho : okO o = okO ((tailR 1 s2).map fun z => (C.event K n m z.1.1 z.1.2, z.2.2))) :
    Calls Tryz.prog 48 #[.string ⟨#[101, 120, 101, 99]⟩, .int .i64 K, .string ⟨s.1.toArray⟩, .bool s.2] w (RcE w o) := by
  subst hsl0
  obtain ⟨q2, b2⟩ := s2
  obtain ⟨l, mo⟩ := s
  obtain ⟨q1, b1⟩ := s1
  obtain ⟨rfl, x1, h1, hx1⟩ := numS_cut hn
  simp only at hs h1 ⊢
  have hz1 := cutX_len true false l
  rw [h1] at hz1
  simp only at hz1
  have hz1b : q1.length ≤ 100000000 := by omega
  have HC1 := Lib.hid (rcut_at true l x1 q1 b1 hs h1)
  have hN1 := rnumb_at x1 (by omega)
  rw [hx1] at hN1
  simp only [Option.getD_some, Option.isSome_some] at hN1
  have HN1 := Lib.hid hN1
  have HSl := Lib.hid HS
  clear hn hN1 h1 hz1 hx1 HS hs
  obtain ⟨W0, hW0⟩ : ∃ W0, w.alloc (.cells #[.int .i64 0, .int .i64 0, .int .i64 0, .int .i64 0, .int .i64 0, .string ⟨#[]⟩, .slice none 0 0, .int .i64 0, .bool false, .slice none 0 0, .int .i64 0, .slice none 0 0] 47) = W0 := ⟨_, rfl⟩
  have HB0 : Hid (Below w.heap.size w W0) := Lib.hid (by rw [← hW0]; exact below_alloc _ _)
  have HR0 : Hid (CBox W0 w.heap.size) := Lib.hid (by rw [← hW0]; exact Blk.new _ _ _)
  obtain ⟨rfl, rfl, rfl⟩ : 0 = m ∧ q1 = q2 ∧ b1 = b2 := by simpa [slotR] using hsl
  clear hsl
  have hqz := Lib.hid hz1b
  clear hz1b
  go_enter Tryz.func48, Tryz.ntmps48
  go_upto_region 6 with (first
    | (go_at_call 45; refine (HC1.out _).mono ?_; rintro e w1 ⟨rfl, hb1⟩)
    | (go_at_call 103; refine (HN1.out _).mono ?_; rintro e w2 ⟨rfl, hb2⟩))
  generalize hW5 : w2.alloc (.cells #[.int .i64 K, .int .i64 n, .int .i64 0, .string ⟨#[]⟩, .slice none 0 0] 42) = W5
  obtain ⟨hE5, hb5⟩ := EBox.made hW5
  have HR2 : Hid (CBox w2 w.heap.size) := Lib.hid (Blk.below (Blk.below HR0.out hb1) hb2)
  have HG : Hid (w.heap.size < w2.heap.size) := Lib.hid (Blk.lt HR2.out)
  have HR5 : Hid (CBox W5 w.heap.size) := Lib.hid (Blk.below HR2.out hb5)
  have HB5 : Hid (Below w.heap.size w W5) := Lib.hid (below_thn (below_thn (below_thn HB0.out hb1) hb2) hb5)
  have HE5 := Lib.hid hE5
  clear hW5 hE5 hb5 hb1 hb2 hW0 HR2 HB0 HR0
  go_upto_region 14 with ((go_at_call 104; refine (HSl.out _).mono ?_; rintro e w3 ⟨rfl, hb3⟩))
  have HE : Hid (EBox w3 w2.heap.size K n 0 ⟨#[]⟩ (.slice none 0 0)) := Lib.hid (Blk.below HE5.out hb3)
  have HR : Hid (CBox w3 w.heap.size) := Lib.hid (Blk.below HR5.out hb3)
  have HB : Hid (Below w.heap.size w w3) := Lib.hid (below_thn HB5.out hb3)
  clear HE5 HR5 HB5 hb3
  generalize w3 = W6 at HE HR HB ⊢
  generalize w2.heap.size = g at HE HG ⊢
  obtain ⟨c0, c1, c2, c3, c4⟩ := EBox.cells HE.out
  have f3 := Blk.free HE.out 3
  have f4 := Blk.free HE.out 4
  go_upto_region 18 with fail
  generalize hW7 : W6.setCell ⟨g, 3, none⟩ (.string ⟨q1.toArray⟩) = W7
  have HE7 : Hid (EBox W7 g K n _ ⟨q1.toArray⟩ (.slice none 0 0)) := Lib.hid (by rw [← hW7]; exact EBox.set3 HE.out _)
  have HR7 : Hid (CBox W7 w.heap.size) := Lib.hid (by rw [← hW7]; exact Blk.setO HR.out (by have := HG.out; simp only; omega) _)
  have HB7 : Hid (Below w.heap.size w W7) := Lib.hid (by rw [← hW7]; exact below_over HB.out (Moved.set g 3 _ _) (Nat.le_of_lt HG.out) (Nat.le_refl _))
  clear hW7 c0 c1 c2 c3 c4 f3 f4 HE HR HB
  obtain ⟨c0, c1, c2, c3, c4⟩ := EBox.cells HE7.out
  have HX : Hid (okO o = if b1 then some (C.event K n 0 ⟨q1.toArray⟩ []) else none) := Lib.hid (by rw [ho]; cases b1 <;> rfl)
  clear ho
  cases b1
  all_goals
    simp only [if_true, Bool.false_eq_true, if_false] at HX
    go_wp2_with (go_at_call 102; refine (rof_any _ _ _ _ _ _ _ _).mono ?_; rintro e w8 ⟨rfl, hb8⟩; have HR8 : Hid (CBox w8 w.heap.size) := Lib.hid (Blk.below (HR7.out) hb8); obtain ⟨r0, r1, r2, r3, r4, r5, r6, r7, r8, r9, r10, r11⟩ := CBox.cells HR8.out; obtain ⟨g0, g1, g2, g3, g4, g5, g6, g7, g8, g9, g10, g11⟩ := CBox.free HR8.out)
    refine bodyPost_ret (by simp [results, Tryz.results48, go_sem, r0, r1, r2, r3, r4, r5, r6, r7, r8, r9, r10, r11]; try rfl) rfl ?_
    exact RcE.fin (w8 := w8) (OwnC.ev (ps := []) (World.ownsRow_nil _ _ _ _) _ _ _ _) (by rw [HX.out]; rfl) (by intro d hd; rw [HX.out] at hd; cases hd <;> rfl) HR8.out (below_thn HB7.out hb8) ((((((((((((Moved.set w.heap.size 0 _ _).trans (Moved.set w.heap.size 1 _ _)).trans (Moved.set w.heap.size 2 _ _)).trans (Moved.set w.heap.size 3 _ _)).trans (Moved.set w.heap.size 4 _ _)).trans (Moved.set w.heap.size 5 _ _)).trans (Moved.set w.heap.size 6 _ _)).trans (Moved.set w.heap.size 7 _ _)).trans (Moved.set w.heap.size 8 _ _)).trans (Moved.set w.heap.size 9 _ _)).trans (Moved.set w.heap.size 10 _ _)).trans (Moved.set w.heap.size 11 _ _))
set_option maxRecDepth 100000 in
set_option maxHeartbeats 4000000 in
/-- A text follows: prepare. -/
theorem revent_t1b (K : Int) (sl : Bool) (hsl0 : sl = true) (s s1 s2 : St) (n m : Int) (HS : ∀ w', Calls Tryz.prog 104 #[.int .i64 K] w' (Ret w' (.bool sl))) (hs : s.1.length ≤ 100000000) (hn : numS s = some (n, s1)) (hsl : slotR sl s1 = some (m, s2)) (w : World) (o : Option (C × Bool)) (ho : okO o = okO ((tailR 1 s2).map fun z => (C.event K n m z.1.1 z.1.2, z.2.2))) :
    Calls Tryz.prog 48 #[.string ⟨#[112, 114, 101, 112, 97, 114, 101]⟩, .int .i64 K, .string ⟨s.1.toArray⟩, .bool s.2] w (RcE w o) := by
  subst hsl0
  obtain ⟨q2, b2⟩ := s2
  obtain ⟨l, mo⟩ := s
  obtain ⟨q1, b1⟩ := s1
  obtain ⟨rfl, x1, h1, hx1⟩ := numS_cut hn
  simp only at hs h1 ⊢
  have hz1 := cutX_len true false l
  rw [h1] at hz1
  simp only at hz1
  have hz1b : q1.length ≤ 100000000 := by omega
  have HC1 := Lib.hid (rcut_at true l x1 q1 b1 hs h1)
  have hN1 := rnumb_at x1 (by omega)
  rw [hx1] at hN1
  simp only [Option.getD_some, Option.isSome_some] at hN1
  have HN1 := Lib.hid hN1
  have HSl := Lib.hid HS
  clear hn hN1 h1 hz1 hx1 HS hs
  obtain ⟨W0, hW0⟩ : ∃ W0, w.alloc (.cells #[.int .i64 0, .int .i64 0, .int .i64 0, .int .i64 0, .int .i64 0, .string ⟨#[]⟩, .slice none 0 0, .int .i64 0, .bool false, .slice none 0 0, .int .i64 0, .slice none 0 0] 47) = W0 := ⟨_, rfl⟩
  have HB0 : Hid (Below w.heap.size w W0) := Lib.hid (by rw [← hW0]; exact below_alloc _ _)
  have HR0 : Hid (CBox W0 w.heap.size) := Lib.hid (by rw [← hW0]; exact Blk.new _ _ _)
  obtain ⟨rfl, x2, h2, hx2⟩ := numS_cut hsl
  simp only at h2
  have hz2 := cutX_len true false q1
  rw [h2] at hz2
  simp only at hz2
  have hqz : Hid (q2.length ≤ 100000000) := Lib.hid (by omega)
  have HC2 := Lib.hid (rcut_at true q1 x2 q2 b2 hz1b h2)
  have hN2 := rnumb_at x2 (by omega)
  rw [hx2] at hN2
  simp only [Option.getD_some, Option.isSome_some] at hN2
  have HN2 := Lib.hid hN2
  clear hN2 h2 hz2 hx2 hsl hz1b
  go_enter Tryz.func48, Tryz.ntmps48
  go_upto_region 6 with (first
    | (go_at_call 45; refine (HC1.out _).mono ?_; rintro e w1 ⟨rfl, hb1⟩)
    | (go_at_call 103; refine (HN1.out _).mono ?_; rintro e w2 ⟨rfl, hb2⟩))
  generalize hW5 : w2.alloc (.cells #[.int .i64 K, .int .i64 n, .int .i64 0, .string ⟨#[]⟩, .slice none 0 0] 42) = W5
  obtain ⟨hE5, hb5⟩ := EBox.made hW5
  have HR2 : Hid (CBox w2 w.heap.size) := Lib.hid (Blk.below (Blk.below HR0.out hb1) hb2)
  have HG : Hid (w.heap.size < w2.heap.size) := Lib.hid (Blk.lt HR2.out)
  have HR5 : Hid (CBox W5 w.heap.size) := Lib.hid (Blk.below HR2.out hb5)
  have HB5 : Hid (Below w.heap.size w W5) := Lib.hid (below_thn (below_thn (below_thn HB0.out hb1) hb2) hb5)
  have HE5 := Lib.hid hE5
  clear hW5 hE5 hb5 hb1 hb2 hW0 HR2 HB0 HR0
  go_upto_region 13 with (first
    | (go_at_call 104; refine (HSl.out _).mono ?_; rintro e w3 ⟨rfl, hb3⟩)
    | (go_at_call 45; refine (HC2.out _).mono ?_; rintro e w4 ⟨rfl, hb4⟩)
    | (go_at_call 103; refine (HN2.out _).mono ?_; rintro e w5 ⟨rfl, hb5⟩))
  have HE6 : Hid (EBox w5 w2.heap.size K n 0 ⟨#[]⟩ (.slice none 0 0)) := Lib.hid (Blk.below (Blk.below (Blk.below HE5.out hb3) hb4) hb5)
  have HR6 : Hid (CBox w5 w.heap.size) := Lib.hid (Blk.below (Blk.below (Blk.below HR5.out hb3) hb4) hb5)
  have HB6 : Hid (Below w.heap.size w w5) := Lib.hid (below_thn (below_thn (below_thn HB5.out hb3) hb4) hb5)
  clear HE5 HR5 HB5 hb3 hb4 hb5
  generalize w2.heap.size = g at HE6 HG ⊢
  have c2 := (EBox.cells HE6.out).2.2.1
  have f2 := Blk.free HE6.out 2
  go_upto_region 14 with fail
  generalize hW6 : w5.setCell ⟨g, 2, none⟩ (.int .i64 m) = W6
  have HE : Hid (EBox W6 g K n m ⟨#[]⟩ (.slice none 0 0)) := Lib.hid (by rw [← hW6]; exact EBox.set2 HE6.out m)
  have HR : Hid (CBox W6 w.heap.size) := Lib.hid (by rw [← hW6]; exact Blk.setO HR6.out (by have := HG.out; simp only; omega) _)
  have HB : Hid (Below w.heap.size w W6) := Lib.hid (by rw [← hW6]; exact below_over HB6.out (Moved.set g 2 _ _) (Nat.le_of_lt HG.out) (Nat.le_refl _))
  clear hW6 c2 f2 HE6 HR6 HB6
  obtain ⟨c0, c1, c2, c3, c4⟩ := EBox.cells HE.out
  have f3 := Blk.free HE.out 3
  have f4 := Blk.free HE.out 4
  go_upto_region 18 with fail
  generalize hW7 : W6.setCell ⟨g, 3, none⟩ (.string ⟨q2.toArray⟩) = W7
  have HE7 : Hid (EBox W7 g K n _ ⟨q2.toArray⟩ (.slice none 0 0)) := Lib.hid (by rw [← hW7]; exact EBox.set3 HE.out _)
  have HR7 : Hid (CBox W7 w.heap.size) := Lib.hid (by rw [← hW7]; exact Blk.setO HR.out (by have := HG.out; simp only; omega) _)
  have HB7 : Hid (Below w.heap.size w W7) := Lib.hid (by rw [← hW7]; exact below_over HB.out (Moved.set g 3 _ _) (Nat.le_of_lt HG.out) (Nat.le_refl _))
  clear hW7 c0 c1 c2 c3 c4 f3 f4 HE HR HB
  obtain ⟨c0, c1, c2, c3, c4⟩ := EBox.cells HE7.out
  have HX : Hid (okO o = if b2 then some (C.event K n m ⟨q2.toArray⟩ []) else none) := Lib.hid (by rw [ho]; cases b2 <;> rfl)
  clear ho
  cases b2
  all_goals
    simp only [if_true, Bool.false_eq_true, if_false] at HX
    go_wp2_with (go_at_call 102; refine (rof_any _ _ _ _ _ _ _ _).mono ?_; rintro e w8 ⟨rfl, hb8⟩; have HR8 : Hid (CBox w8 w.heap.size) := Lib.hid (Blk.below (HR7.out) hb8); obtain ⟨r0, r1, r2, r3, r4, r5, r6, r7, r8, r9, r10, r11⟩ := CBox.cells HR8.out; obtain ⟨g0, g1, g2, g3, g4, g5, g6, g7, g8, g9, g10, g11⟩ := CBox.free HR8.out)
    refine bodyPost_ret (by simp [results, Tryz.results48, go_sem, r0, r1, r2, r3, r4, r5, r6, r7, r8, r9, r10, r11]; try rfl) rfl ?_
    exact RcE.fin (w8 := w8) (OwnC.ev (ps := []) (World.ownsRow_nil _ _ _ _) _ _ _ _) (by rw [HX.out]; rfl) (by intro d hd; rw [HX.out] at hd; cases hd <;> rfl) HR8.out (below_thn HB7.out hb8) ((((((((((((Moved.set w.heap.size 0 _ _).trans (Moved.set w.heap.size 1 _ _)).trans (Moved.set w.heap.size 2 _ _)).trans (Moved.set w.heap.size 3 _ _)).trans (Moved.set w.heap.size 4 _ _)).trans (Moved.set w.heap.size 5 _ _)).trans (Moved.set w.heap.size 6 _ _)).trans (Moved.set w.heap.size 7 _ _)).trans (Moved.set w.heap.size 8 _ _)).trans (Moved.set w.heap.size 9 _ _)).trans (Moved.set w.heap.size 10 _ _)).trans (Moved.set w.heap.size 11 _ _))

end Go.Proofs.YtkkildkleleppaaGreatDoor
namespace Go.Proofs.YtkkildkleleppaaGreatDoor
open Go.RowKit

set_option maxRecDepth 100000 in
set_option maxHeartbeats 4000000 in
/-- Values and a text follow: call. -/
theorem revent_t2 (K : Int) (sl : Bool) (hsl0 : sl = false) (s s1 s2 : St) (n m : Int) (HS : ∀ w', Calls Tryz.prog 104 #[.int .i64 K] w' (Ret w' (.bool sl))) (hs : s.1.length ≤ 100000000) (hn : numS s = some (n, s1)) (hsl : slotR sl s1 = some (m, s2)) (w : World) (o : Option (C × Bool)) (ho : okO o = okO ((tailR 2 s2).map fun z => (C.event K n m z.1.1 z.1.2, z.2.2))) :
    Calls Tryz.prog 48 #[.string ⟨#[99, 97, 108, 108]⟩, .int .i64 K, .string ⟨s.1.toArray⟩, .bool s.2] w (RcE w o) := by
  subst hsl0
  obtain ⟨q2, b2⟩ := s2
  obtain ⟨l, mo⟩ := s
  obtain ⟨q1, b1⟩ := s1
  obtain ⟨rfl, x1, h1, hx1⟩ := numS_cut hn
  simp only at hs h1 ⊢
  have hz1 := cutX_len true false l
  rw [h1] at hz1
  simp only at hz1
  have hz1b : q1.length ≤ 100000000 := by omega
  have HC1 := Lib.hid (rcut_at true l x1 q1 b1 hs h1)
  have hN1 := rnumb_at x1 (by omega)
  rw [hx1] at hN1
  simp only [Option.getD_some, Option.isSome_some] at hN1
  have HN1 := Lib.hid hN1
  have HSl := Lib.hid HS
  clear hn hN1 h1 hz1 hx1 HS hs
  obtain ⟨W0, hW0⟩ : ∃ W0, w.alloc (.cells #[.int .i64 0, .int .i64 0, .int .i64 0, .int .i64 0, .int .i64 0, .string ⟨#[]⟩, .slice none 0 0, .int .i64 0, .bool false, .slice none 0 0, .int .i64 0, .slice none 0 0] 47) = W0 := ⟨_, rfl⟩
  have HB0 : Hid (Below w.heap.size w W0) := Lib.hid (by rw [← hW0]; exact below_alloc _ _)
  have HR0 : Hid (CBox W0 w.heap.size) := Lib.hid (by rw [← hW0]; exact Blk.new _ _ _)
  obtain ⟨rfl, rfl, rfl⟩ : 0 = m ∧ q1 = q2 ∧ b1 = b2 := by simpa [slotR] using hsl
  clear hsl
  have hqz := Lib.hid hz1b
  clear hz1b
  go_enter Tryz.func48, Tryz.ntmps48
  go_upto_region 6 with (first
    | (go_at_call 45; refine (HC1.out _).mono ?_; rintro e w1 ⟨rfl, hb1⟩)
    | (go_at_call 103; refine (HN1.out _).mono ?_; rintro e w2 ⟨rfl, hb2⟩))
  generalize hW5 : w2.alloc (.cells #[.int .i64 K, .int .i64 n, .int .i64 0, .string ⟨#[]⟩, .slice none 0 0] 42) = W5
  obtain ⟨hE5, hb5⟩ := EBox.made hW5
  have HR2 : Hid (CBox w2 w.heap.size) := Lib.hid (Blk.below (Blk.below HR0.out hb1) hb2)
  have HG : Hid (w.heap.size < w2.heap.size) := Lib.hid (Blk.lt HR2.out)
  have HR5 : Hid (CBox W5 w.heap.size) := Lib.hid (Blk.below HR2.out hb5)
  have HB5 : Hid (Below w.heap.size w W5) := Lib.hid (below_thn (below_thn (below_thn HB0.out hb1) hb2) hb5)
  have HE5 := Lib.hid hE5
  clear hW5 hE5 hb5 hb1 hb2 hW0 HR2 HB0 HR0
  go_upto_region 14 with ((go_at_call 104; refine (HSl.out _).mono ?_; rintro e w3 ⟨rfl, hb3⟩))
  have HE : Hid (EBox w3 w2.heap.size K n 0 ⟨#[]⟩ (.slice none 0 0)) := Lib.hid (Blk.below HE5.out hb3)
  have HR : Hid (CBox w3 w.heap.size) := Lib.hid (Blk.below HR5.out hb3)
  have HB : Hid (Below w.heap.size w w3) := Lib.hid (below_thn HB5.out hb3)
  clear HE5 HR5 HB5 hb3
  generalize w3 = W6 at HE HR HB ⊢
  generalize w2.heap.size = g at HE HG ⊢
  obtain ⟨c0, c1, c2, c3, c4⟩ := EBox.cells HE.out
  have f3 := Blk.free HE.out 3
  have f4 := Blk.free HE.out 4
  obtain ⟨x3, q3, b3, h3⟩ : ∃ x r b, cutX false false q1 = (x, r, b) := ⟨_, _, _, rfl⟩
  have hz3 := cutX_len false false q1
  rw [h3] at hz3
  simp only at hz3
  have hz3b := hqz.out
  have HC3 := Lib.hid (rcut_at false q1 x3 q3 b3 hqz.out h3)
  have HV3 := Lib.hid (rvals_at x3 (by omega))
  clear hz3 hz3b
  simp only [tailR, valsS, allS, h3] at ho
  clear h3
  cases hv : readVs (splitC false [] x3) with
  | none =>
    rw [hv] at HV3 ho
    have HX : Hid (okO o = none) := Lib.hid (by rw [ho]; cases b1 <;> rfl)
    clear ho hv
    go_upto_region 24 with (first
      | (go_at_call 45; refine (HC3.out _).mono ?_; rintro e wc ⟨rfl, hbc⟩)
      | (go_at_call 105; refine (HV3.out _).mono ?_; rintro e wv ⟨rfl, hbv⟩; have HEv : Hid (EBox wv g K n 0 ⟨#[]⟩ (.slice none 0 0)) := Lib.hid (Blk.below (Blk.below HE.out hbc) hbv); have f3 := Blk.free HEv.out 3; have f4 := Blk.free HEv.out 4; obtain ⟨v0, v1, v2, v3, v4⟩ := EBox.cells HEv.out))
    generalize hW7 : (wv.setCell ⟨g, 4, none⟩ (.slice none 0 0)).setCell ⟨g, 3, none⟩ (.string ⟨q3.toArray⟩) = W7
    have HE7 : Hid (EBox W7 g K n 0 ⟨q3.toArray⟩ (.slice none 0 0)) := Lib.hid (by rw [← hW7]; exact EBox.set3 (EBox.set4 HEv.out _) _)
    have HR7 : Hid (CBox W7 w.heap.size) := Lib.hid (by rw [← hW7]; exact Blk.setO (Blk.setO (Blk.below (Blk.below HR.out hbc) hbv) (by have := HG.out; simp only; omega) _) (by have := HG.out; simp only; omega) _)
    have HB7 : Hid (Below w.heap.size w W7) := Lib.hid (by rw [← hW7]; exact below_over (below_thn (below_thn HB.out hbc) hbv) ((Moved.set g 4 _ _).trans (Moved.set g 3 _ _)) (Nat.le_of_lt HG.out) (Nat.le_refl _))
    clear hW7 c0 c1 c2 c3 c4 HE HR HB v0 v1 v2 v3 v4 HEv hbc hbv
    obtain ⟨c0, c1, c2, c3, c4⟩ := EBox.cells HE7.out
    cases b1 <;> cases b3
    all_goals
      go_wp2_with (go_at_call 102; refine (rof_any _ _ _ _ _ _ _ _).mono ?_; rintro e w8 ⟨rfl, hb8⟩; have HR8 : Hid (CBox w8 w.heap.size) := Lib.hid (Blk.below (HR7.out) hb8); obtain ⟨r0, r1, r2, r3, r4, r5, r6, r7, r8, r9, r10, r11⟩ := CBox.cells HR8.out; obtain ⟨g0, g1, g2, g3, g4, g5, g6, g7, g8, g9, g10, g11⟩ := CBox.free HR8.out)
      refine bodyPost_ret (by simp [results, Tryz.results48, go_sem, r0, r1, r2, r3, r4, r5, r6, r7, r8, r9, r10, r11]; try rfl) rfl ?_
      exact RcE.fin (w8 := w8) (OwnC.ev (ps := []) (World.ownsRow_nil _ _ _ _) _ _ _ _) (by rw [HX.out]; rfl) (by intro d hd; rw [HX.out] at hd; cases hd <;> rfl) HR8.out (below_thn HB7.out hb8) ((((((((((((Moved.set w.heap.size 0 _ _).trans (Moved.set w.heap.size 1 _ _)).trans (Moved.set w.heap.size 2 _ _)).trans (Moved.set w.heap.size 3 _ _)).trans (Moved.set w.heap.size 4 _ _)).trans (Moved.set w.heap.size 5 _ _)).trans (Moved.set w.heap.size 6 _ _)).trans (Moved.set w.heap.size 7 _ _)).trans (Moved.set w.heap.size 8 _ _)).trans (Moved.set w.heap.size 9 _ _)).trans (Moved.set w.heap.size 10 _ _)).trans (Moved.set w.heap.size 11 _ _))
  | some vs =>
    rw [hv] at HV3 ho
    have HX : Hid (okO o = if b1 && b3 then some (C.event K n 0 ⟨q3.toArray⟩ vs) else none) := Lib.hid (by rw [ho]; cases b1 <;> cases b3 <;> rfl)
    clear ho hv
    go_upto_region 24 with (first
      | (go_at_call 45; refine (HC3.out _).mono ?_; rintro e wc ⟨rfl, hbc⟩)
      | (go_at_call 105; refine (HV3.out _).mono ?_; rintro e wv ⟨v, rfl, hown, hbv⟩; obtain ⟨va, vc, hve, -, -, -⟩ := own_form hown; subst hve; have HEv : Hid (EBox wv g K n 0 ⟨#[]⟩ (.slice none 0 0)) := Lib.hid (Blk.below (Blk.below HE.out hbc) hbv); have f3 := Blk.free HEv.out 3; have f4 := Blk.free HEv.out 4; obtain ⟨v0, v1, v2, v3, v4⟩ := EBox.cells HEv.out))
    generalize hW7 : (wv.setCell ⟨g, 4, none⟩ (.slice va vs.length vc)).setCell ⟨g, 3, none⟩ (.string ⟨q3.toArray⟩) = W7
    have HE7 : Hid (EBox W7 g K n 0 ⟨q3.toArray⟩ (.slice va vs.length vc)) := Lib.hid (by rw [← hW7]; exact EBox.set3 (EBox.set4 HEv.out _) _)
    have HR7 : Hid (CBox W7 w.heap.size) := Lib.hid (by rw [← hW7]; exact Blk.setO (Blk.setO (Blk.below (Blk.below HR.out hbc) hbv) (by have := HG.out; simp only; omega) _) (by have := HG.out; simp only; omega) _)
    have HB7 : Hid (Below w.heap.size w W7) := Lib.hid (by rw [← hW7]; exact below_over (below_thn (below_thn HB.out hbc) hbv) ((Moved.set g 4 _ _).trans (Moved.set g 3 _ _)) (Nat.le_of_lt HG.out) (Nat.le_refl _))
    have HO7 : Hid (W7.ownsRow w.heap.size 80 3 (.slice va vs.length vc) vs.length (vcells vs)) := Lib.hid (by rw [← hW7]; exact Blk.own_set (EBox.set4 HEv.out _) (Blk.own_set HEv.out (own_mono (Nat.le_trans HB.out.size hbc.size) hown) (by decide) 4 _) (by decide) 3 _)
    clear hW7 c0 c1 c2 c3 c4 HE HR HB v0 v1 v2 v3 v4 HEv hbc hbv hown
    obtain ⟨c0, c1, c2, c3, c4⟩ := EBox.cells HE7.out
    cases b1 <;> cases b3
    all_goals
      simp only [Bool.and_true, Bool.and_false, if_true, Bool.false_eq_true, if_false] at HX
      go_wp2_with (go_at_call 102; refine (rof_any _ _ _ _ _ _ _ _).mono ?_; rintro e w8 ⟨rfl, hb8⟩; have HR8 : Hid (CBox w8 w.heap.size) := Lib.hid (Blk.below (HR7.out) hb8); obtain ⟨r0, r1, r2, r3, r4, r5, r6, r7, r8, r9, r10, r11⟩ := CBox.cells HR8.out; obtain ⟨g0, g1, g2, g3, g4, g5, g6, g7, g8, g9, g10, g11⟩ := CBox.free HR8.out)
      refine bodyPost_ret (by simp [results, Tryz.results48, go_sem, r0, r1, r2, r3, r4, r5, r6, r7, r8, r9, r10, r11]; try rfl) rfl ?_
      exact RcE.fin (w8 := w8) (OwnC.ev (own_kept HO7.out hb8) _ _ _ _) (by rw [HX.out]; rfl) (by intro d hd; rw [HX.out] at hd; cases hd <;> rfl) HR8.out (below_thn HB7.out hb8) ((((((((((((Moved.set w.heap.size 0 _ _).trans (Moved.set w.heap.size 1 _ _)).trans (Moved.set w.heap.size 2 _ _)).trans (Moved.set w.heap.size 3 _ _)).trans (Moved.set w.heap.size 4 _ _)).trans (Moved.set w.heap.size 5 _ _)).trans (Moved.set w.heap.size 6 _ _)).trans (Moved.set w.heap.size 7 _ _)).trans (Moved.set w.heap.size 8 _ _)).trans (Moved.set w.heap.size 9 _ _)).trans (Moved.set w.heap.size 10 _ _)).trans (Moved.set w.heap.size 11 _ _))
end Go.Proofs.YtkkildkleleppaaGreatDoor
