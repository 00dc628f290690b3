/- The document's events: numbers that are none. The document's events: nothing follows the numbers. -/
import Derived.Test.YtkkildkleleppaaGreatDoorJ40
namespace Go.Proofs.YtkkildkleleppaaGreatDoor
open Go.RowKit

theorem EBox.made {w2 W5 : World} {K n : Int} (h : w2.alloc (.cells #[.int .i64 K, .int .i64 n, .int .i64 0, .string ⟨#[]⟩, .slice none 0 0] 42) = W5) : EBox W5 w2.heap.size K n 0 ⟨#[]⟩ (.slice none 0 0) ∧ Below w2.heap.size w2 W5 := by
  subst h
  exact ⟨Blk.new _ _ _, below_alloc _ _⟩
set_option maxRecDepth 100000 in
set_option maxHeartbeats 4000000 in
/-- The first number is none. -/
theorem revent_1 (W : ByteArray) (K : Int) (s : St) (hs : s.1.length ≤ 100000000) (hn : numS s = none) (w : World) (o : Option (C × Bool)) (ho : o = none) :
    Calls Tryz.prog 48 #[.string W, .int .i64 K, .string ⟨s.1.toArray⟩, .bool s.2] w (RcE w o) := by
  obtain ⟨l, m⟩ := s
  simp only at hs ⊢
  obtain ⟨x1, q1, b1, h1⟩ : ∃ x r b, cutX true false l = (x, r, b) := ⟨_, _, _, rfl⟩
  have hx := cutX_len true false l
  rw [h1] at hx
  simp only at hx
  have HC1 := Lib.hid (rcut_at true l x1 q1 b1 hs h1)
  have HN1 := Lib.hid (rnumb_at x1 (by omega))
  have hm : m = false ∨ (numO x1).isSome = false := by
    cases m with
    | false => exact .inl rfl
    | true =>
      right
      unfold numS wordS at hn
      simp only [if_true, h1] at hn
      cases hv : numO x1 with
      | none => rfl
      | some n => rw [hv] at hn; cases hn
  generalize (numO x1).getD 0 = n at HN1
  generalize (numO x1).isSome = ok at HN1 hm
  clear hn h1
  obtain ⟨W0, hW0⟩ : ∃ W0, w.alloc (.cells #[.int .i64 0, .int .i64 0, .int .i64 0, .int .i64 0, .int .i64 0, .string ⟨#[]⟩, .slice none 0 0, .int .i64 0, .bool false, .slice none 0 0, .int .i64 0, .slice none 0 0] 47) = W0 := ⟨_, rfl⟩
  have HB0 : Hid (Below w.heap.size w W0) := Lib.hid (by rw [← hW0]; exact below_alloc _ _)
  have HR0 : Hid (CBox W0 w.heap.size) := Lib.hid (by rw [← hW0]; exact Blk.new _ _ _)
  obtain rfl | ⟨rfl, rfl⟩ : m = false ∨ (m = true ∧ ok = false) := by
    rcases hm with rfl | rfl
    · exact .inl rfl
    · cases m
      · exact .inl rfl
      · exact .inr ⟨rfl, rfl⟩
  all_goals
    clear hm
    go_enter Tryz.func48, Tryz.ntmps48
    go_wp2_with (first
      | (go_at_call 45; refine (HC1.out _).mono ?_; rintro e w1 ⟨rfl, hb1⟩)
      | (go_at_call 103; refine (HN1.out _).mono ?_; rintro e w2 ⟨rfl, hb2⟩; have HR2 := Lib.hid (Blk.below (Blk.below HR0.out hb1) hb2); obtain ⟨r0, r1, r2, r3, r4, r5, r6, r7, r8, r9, r10, r11⟩ := CBox.cells HR2.out; obtain ⟨g0, g1, g2, g3, g4, g5, g6, g7, g8, g9, g10, g11⟩ := CBox.free HR2.out))
    refine bodyPost_ret (by simp [results, Tryz.results48, go_sem, r0, r1, r2, r3, r4, r5, r6, r7, r8, r9, r10, r11]; try rfl) rfl ?_
    exact RcE.fin (w8 := w2) (OwnC.zero _ _) (by rw [ho]; rfl) (by rw [ho]; rintro d ⟨⟩) HR2.out (below_thn (below_thn HB0.out hb1) hb2) ((((((((((((Moved.set w.heap.size 0 _ _).trans (Moved.set w.heap.size 1 _ _)).trans (Moved.set w.heap.size 2 _ _)).trans (Moved.set w.heap.size 3 _ _)).trans (Moved.set w.heap.size 4 _ _)).trans (Moved.set w.heap.size 5 _ _)).trans (Moved.set w.heap.size 6 _ _)).trans (Moved.set w.heap.size 7 _ _)).trans (Moved.set w.heap.size 8 _ _)).trans (Moved.set w.heap.size 9 _ _)).trans (Moved.set w.heap.size 10 _ _)).trans (Moved.set w.heap.size 11 _ _))

set_option maxRecDepth 100000 in
set_option maxHeartbeats 4000000 in
/-- The slot's number is none. -/
theorem revent_2 (W : ByteArray) (K : Int) (s s1 : St) (n : Int) (HS : ∀ w', Calls Tryz.prog 104 #[.int .i64 K] w' (Ret w' (.bool true))) (hs : s.1.length ≤ 100000000) (hn : numS s = some (n, s1)) (hn2 : numS s1 = none) (w : World) (o : Option (C × Bool)) (ho : o = none) :
    Calls Tryz.prog 48 #[.string W, .int .i64 K, .string ⟨s.1.toArray⟩, .bool s.2] w (RcE w o) := by
  obtain ⟨l, mo⟩ := s
  obtain ⟨q1, b1⟩ := s1
  obtain ⟨rfl, x1, h1, hx1⟩ := numS_cut hn
  simp only at hs h1 ⊢
  have hz1 := cutX_len true false l
  rw [h1] at hz1
  simp only at hz1
  have hz1b : q1.length ≤ 100000000 := by omega
  have HC1 := Lib.hid (rcut_at true l x1 q1 b1 hs h1)
  have hN1 := rnumb_at x1 (by omega)
  rw [hx1] at hN1
  simp only [Option.getD_some, Option.isSome_some] at hN1
  have HN1 := Lib.hid hN1
  have HSl := Lib.hid HS
  clear hn hN1 h1 hz1 hx1 HS hs
  obtain ⟨W0, hW0⟩ : ∃ W0, w.alloc (.cells #[.int .i64 0, .int .i64 0, .int .i64 0, .int .i64 0, .int .i64 0, .string ⟨#[]⟩, .slice none 0 0, .int .i64 0, .bool false, .slice none 0 0, .int .i64 0, .slice none 0 0] 47) = W0 := ⟨_, rfl⟩
  have HB0 : Hid (Below w.heap.size w W0) := Lib.hid (by rw [← hW0]; exact below_alloc _ _)
  have HR0 : Hid (CBox W0 w.heap.size) := Lib.hid (by rw [← hW0]; exact Blk.new _ _ _)
  obtain ⟨x2, q2, b2, h2⟩ : ∃ x r b, cutX true false q1 = (x, r, b) := ⟨_, _, _, rfl⟩
  have hx := cutX_len true false q1
  rw [h2] at hx
  simp only at hx
  have HC2 := Lib.hid (rcut_at true q1 x2 q2 b2 hz1b h2)
  have HN2 := Lib.hid (rnumb_at x2 (by omega))
  have hm : b1 = false ∨ (numO x2).isSome = false := by
    cases b1 with
    | false => exact .inl rfl
    | true =>
      right
      unfold numS wordS at hn2
      simp only [if_true, h2] at hn2
      cases hv : numO x2 with
      | none => rfl
      | some n => rw [hv] at hn2; cases hn2
  generalize (numO x2).getD 0 = n2 at HN2
  generalize (numO x2).isSome = ok at HN2 hm
  clear hn2 h2 hx hz1b
  obtain rfl | ⟨rfl, rfl⟩ : b1 = false ∨ (b1 = true ∧ ok = false) := by
    rcases hm with rfl | rfl
    · exact .inl rfl
    · cases b1
      · exact .inl rfl
      · exact .inr ⟨rfl, rfl⟩
  all_goals clear hm
  · skip
    go_enter Tryz.func48, Tryz.ntmps48
    go_upto_region 6 with (first
      | (go_at_call 45; refine (HC1.out _).mono ?_; rintro e w1 ⟨rfl, hb1⟩)
      | (go_at_call 103; refine (HN1.out _).mono ?_; rintro e w2 ⟨rfl, hb2⟩))
    generalize hW5 : w2.alloc (.cells #[.int .i64 K, .int .i64 n, .int .i64 0, .string ⟨#[]⟩, .slice none 0 0] 42) = W5
    obtain ⟨hE5, hb5⟩ := EBox.made hW5
    have HR2 : Hid (CBox w2 w.heap.size) := Lib.hid (Blk.below (Blk.below HR0.out hb1) hb2)
    have HG : Hid (w.heap.size < w2.heap.size) := Lib.hid (Blk.lt HR2.out)
    have HR5 : Hid (CBox W5 w.heap.size) := Lib.hid (Blk.below HR2.out hb5)
    have HB5 : Hid (Below w.heap.size w W5) := Lib.hid (below_thn (below_thn (below_thn HB0.out hb1) hb2) hb5)
    have HE5 := Lib.hid hE5
    clear hW5 hE5 hb5 hb1 hb2 hW0 HR2 HB0 HR0
    go_wp2_with ((go_at_call 104; refine (HSl.out _).mono ?_; rintro e w3 ⟨rfl, hb3⟩); have HR8 : Hid (CBox w3 w.heap.size) := Lib.hid (Blk.below HR5.out hb3); obtain ⟨r0, r1, r2, r3, r4, r5, r6, r7, r8, r9, r10, r11⟩ := CBox.cells HR8.out; obtain ⟨g0, g1, g2, g3, g4, g5, g6, g7, g8, g9, g10, g11⟩ := CBox.free HR8.out)
    refine bodyPost_ret (by simp [results, Tryz.results48, go_sem, r0, r1, r2, r3, r4, r5, r6, r7, r8, r9, r10, r11]; try rfl) rfl ?_
    exact RcE.fin (w8 := w3) (OwnC.zero _ _) (by rw [ho]; rfl) (by rw [ho]; rintro d ⟨⟩) HR8.out (below_thn HB5.out hb3) ((((((((((((Moved.set w.heap.size 0 _ _).trans (Moved.set w.heap.size 1 _ _)).trans (Moved.set w.heap.size 2 _ _)).trans (Moved.set w.heap.size 3 _ _)).trans (Moved.set w.heap.size 4 _ _)).trans (Moved.set w.heap.size 5 _ _)).trans (Moved.set w.heap.size 6 _ _)).trans (Moved.set w.heap.size 7 _ _)).trans (Moved.set w.heap.size 8 _ _)).trans (Moved.set w.heap.size 9 _ _)).trans (Moved.set w.heap.size 10 _ _)).trans (Moved.set w.heap.size 11 _ _))
  · skip
    go_enter Tryz.func48, Tryz.ntmps48
    go_upto_region 6 with (first
      | (go_at_call 45; refine (HC1.out _).mono ?_; rintro e w1 ⟨rfl, hb1⟩)
      | (go_at_call 103; refine (HN1.out _).mono ?_; rintro e w2 ⟨rfl, hb2⟩))
    generalize hW5 : w2.alloc (.cells #[.int .i64 K, .int .i64 n, .int .i64 0, .string ⟨#[]⟩, .slice none 0 0] 42) = W5
    obtain ⟨hE5, hb5⟩ := EBox.made hW5
    have HR2 : Hid (CBox w2 w.heap.size) := Lib.hid (Blk.below (Blk.below HR0.out hb1) hb2)
    have HG : Hid (w.heap.size < w2.heap.size) := Lib.hid (Blk.lt HR2.out)
    have HR5 : Hid (CBox W5 w.heap.size) := Lib.hid (Blk.below HR2.out hb5)
    have HB5 : Hid (Below w.heap.size w W5) := Lib.hid (below_thn (below_thn (below_thn HB0.out hb1) hb2) hb5)
    have HE5 := Lib.hid hE5
    clear hW5 hE5 hb5 hb1 hb2 hW0 HR2 HB0 HR0
    go_wp2_with (first
      | (go_at_call 104; refine (HSl.out _).mono ?_; rintro e w3 ⟨rfl, hb3⟩)
      | (go_at_call 45; refine (HC2.out _).mono ?_; rintro e w4 ⟨rfl, hb4⟩)
      | (go_at_call 103; refine (HN2.out _).mono ?_; rintro e w5 ⟨rfl, hb5⟩; have HR8 : Hid (CBox w5 w.heap.size) := Lib.hid (Blk.below (Blk.below (Blk.below HR5.out hb3) hb4) hb5); obtain ⟨r0, r1, r2, r3, r4, r5, r6, r7, r8, r9, r10, r11⟩ := CBox.cells HR8.out; obtain ⟨g0, g1, g2, g3, g4, g5, g6, g7, g8, g9, g10, g11⟩ := CBox.free HR8.out))
    refine bodyPost_ret (by simp [results, Tryz.results48, go_sem, r0, r1, r2, r3, r4, r5, r6, r7, r8, r9, r10, r11]; try rfl) rfl ?_
    exact RcE.fin (w8 := w5) (OwnC.zero _ _) (by rw [ho]; rfl) (by rw [ho]; rintro d ⟨⟩) HR8.out (below_thn (below_thn (below_thn HB5.out hb3) hb4) hb5) ((((((((((((Moved.set w.heap.size 0 _ _).trans (Moved.set w.heap.size 1 _ _)).trans (Moved.set w.heap.size 2 _ _)).trans (Moved.set w.heap.size 3 _ _)).trans (Moved.set w.heap.size 4 _ _)).trans (Moved.set w.heap.size 5 _ _)).trans (Moved.set w.heap.size 6 _ _)).trans (Moved.set w.heap.size 7 _ _)).trans (Moved.set w.heap.size 8 _ _)).trans (Moved.set w.heap.size 9 _ _)).trans (Moved.set w.heap.size 10 _ _)).trans (Moved.set w.heap.size 11 _ _))

end Go.Proofs.YtkkildkleleppaaGreatDoor
namespace Go.Proofs.YtkkildkleleppaaGreatDoor
open Go.RowKit

set_option maxRecDepth 100000 in
set_option maxHeartbeats 4000000 in
/-- Nothing follows the numbers. -/
theorem revent_t0 (wd : List UInt8) (K : Int) (sl : Bool) (s s1 s2 : St) (n m : Int) (HS : ∀ w', Calls Tryz.prog 104 #[.int .i64 K] w' (Ret w' (.bool sl))) (hs : s.1.length ≤ 100000000) (hn : numS s = some (n, s1)) (hsl : slotR sl s1 = some (m, s2))
    (x2 : (wd == [101, 120, 101, 99]) = false) (x3 : (wd == [99, 97, 108, 108]) = false) (x4 : (wd == [112, 114, 101, 112, 97, 114, 101]) = false) (x5 : (wd == [98, 105, 110, 100]) = false) (w : World) (o : Option (C × Bool))
    (ho : okO o = okO ((tailR 0 s2).map fun z => (C.event K n m z.1.1 z.1.2, z.2.2))) :
    Calls Tryz.prog 48 #[.string ⟨wd.toArray⟩, .int .i64 K, .string ⟨s.1.toArray⟩, .bool s.2] w (RcE w o) := by
  obtain ⟨q2, b2⟩ := s2
  obtain ⟨l, mo⟩ := s
  obtain ⟨q1, b1⟩ := s1
  obtain ⟨rfl, x1, h1, hx1⟩ := numS_cut hn
  simp only at hs h1 ⊢
  have hz1 := cutX_len true false l
  rw [h1] at hz1
  simp only at hz1
  have hz1b : q1.length ≤ 100000000 := by omega
  have HC1 := Lib.hid (rcut_at true l x1 q1 b1 hs h1)
  have hN1 := rnumb_at x1 (by omega)
  rw [hx1] at hN1
  simp only [Option.getD_some, Option.isSome_some] at hN1
  have HN1 := Lib.hid hN1
  have HSl := Lib.hid HS
  clear hn hN1 h1 hz1 hx1 HS hs
  obtain ⟨W0, hW0⟩ : ∃ W0, w.alloc (.cells #[.int .i64 0, .int .i64 0, .int .i64 0, .int .i64 0, .int .i64 0, .string ⟨#[]⟩, .slice none 0 0, .int .i64 0, .bool false, .slice none 0 0, .int .i64 0, .slice none 0 0] 47) = W0 := ⟨_, rfl⟩
  have HB0 : Hid (Below w.heap.size w W0) := Lib.hid (by rw [← hW0]; exact below_alloc _ _)
  have HR0 : Hid (CBox W0 w.heap.size) := Lib.hid (by rw [← hW0]; exact Blk.new _ _ _)
  cases sl with
  | false =>
    obtain ⟨rfl, rfl, rfl⟩ : 0 = m ∧ q1 = q2 ∧ b1 = b2 := by simpa [slotR] using hsl
    clear hsl
    have hqz := Lib.hid hz1b
    clear hz1b
    go_enter Tryz.func48, Tryz.ntmps48
    go_upto_region 6 with (first
      | (go_at_call 45; refine (HC1.out _).mono ?_; rintro e w1 ⟨rfl, hb1⟩)
      | (go_at_call 103; refine (HN1.out _).mono ?_; rintro e w2 ⟨rfl, hb2⟩))
    generalize hW5 : w2.alloc (.cells #[.int .i64 K, .int .i64 n, .int .i64 0, .string ⟨#[]⟩, .slice none 0 0] 42) = W5
    obtain ⟨hE5, hb5⟩ := EBox.made hW5
    have HR2 : Hid (CBox w2 w.heap.size) := Lib.hid (Blk.below (Blk.below HR0.out hb1) hb2)
    have HG : Hid (w.heap.size < w2.heap.size) := Lib.hid (Blk.lt HR2.out)
    have HR5 : Hid (CBox W5 w.heap.size) := Lib.hid (Blk.below HR2.out hb5)
    have HB5 : Hid (Below w.heap.size w W5) := Lib.hid (below_thn (below_thn (below_thn HB0.out hb1) hb2) hb5)
    have HE5 := Lib.hid hE5
    clear hW5 hE5 hb5 hb1 hb2 hW0 HR2 HB0 HR0
    go_upto_region 14 with ((go_at_call 104; refine (HSl.out _).mono ?_; rintro e w3 ⟨rfl, hb3⟩))
    have HE : Hid (EBox w3 w2.heap.size K n 0 ⟨#[]⟩ (.slice none 0 0)) := Lib.hid (Blk.below HE5.out hb3)
    have HR : Hid (CBox w3 w.heap.size) := Lib.hid (Blk.below HR5.out hb3)
    have HB : Hid (Below w.heap.size w w3) := Lib.hid (below_thn HB5.out hb3)
    clear HE5 HR5 HB5 hb3
    generalize w3 = W6 at HE HR HB ⊢
    generalize w2.heap.size = g at HE HG ⊢
    obtain ⟨c0, c1, c2, c3, c4⟩ := EBox.cells HE.out
    have f3 := Blk.free HE.out 3
    have f4 := Blk.free HE.out 4
    have HX : Hid (okO o = if b1 then none else some (C.event K n 0 ⟨#[]⟩ [])) := Lib.hid (by rw [ho]; cases b1 <;> rfl)
    clear ho
    cases b1
    all_goals
      simp only [if_true, Bool.false_eq_true, if_false] at HX
      go_wp2_with (go_at_call 102; refine (rof_any _ _ _ _ _ _ _ _).mono ?_; rintro e w8 ⟨rfl, hb8⟩; have HR8 : Hid (CBox w8 w.heap.size) := Lib.hid (Blk.below (HR.out) hb8); obtain ⟨r0, r1, r2, r3, r4, r5, r6, r7, r8, r9, r10, r11⟩ := CBox.cells HR8.out; obtain ⟨g0, g1, g2, g3, g4, g5, g6, g7, g8, g9, g10, g11⟩ := CBox.free HR8.out)
      refine bodyPost_ret (by simp [results, Tryz.results48, go_sem, r0, r1, r2, r3, r4, r5, r6, r7, r8, r9, r10, r11]; try rfl) rfl ?_
      exact RcE.fin (w8 := w8) (OwnC.ev (ps := []) (World.ownsRow_nil _ _ _ _) _ _ _ _) (by rw [HX.out]; rfl) (by intro d hd; rw [HX.out] at hd; cases hd <;> rfl) HR8.out (below_thn HB.out hb8) ((((((((((((Moved.set w.heap.size 0 _ _).trans (Moved.set w.heap.size 1 _ _)).trans (Moved.set w.heap.size 2 _ _)).trans (Moved.set w.heap.size 3 _ _)).trans (Moved.set w.heap.size 4 _ _)).trans (Moved.set w.heap.size 5 _ _)).trans (Moved.set w.heap.size 6 _ _)).trans (Moved.set w.heap.size 7 _ _)).trans (Moved.set w.heap.size 8 _ _)).trans (Moved.set w.heap.size 9 _ _)).trans (Moved.set w.heap.size 10 _ _)).trans (Moved.set w.heap.size 11 _ _))
  | true =>
    obtain ⟨rfl, x2, h2, hx2⟩ := numS_cut hsl
    simp only at h2
    have hz2 := cutX_len true false q1
    rw [h2] at hz2
    simp only at hz2
    have hqz : Hid (q2.length ≤ 100000000) := Lib.hid (by omega)
    have HC2 := Lib.hid (rcut_at true q1 x2 q2 b2 hz1b h2)
    have hN2 := rnumb_at x2 (by omega)
    rw [hx2] at hN2
    simp only [Option.getD_some, Option.isSome_some] at hN2
    have HN2 := Lib.hid hN2
    clear hN2 h2 hz2 hx2 hsl hz1b
    go_enter Tryz.func48, Tryz.ntmps48
    go_upto_region 6 with (first
      | (go_at_call 45; refine (HC1.out _).mono ?_; rintro e w1 ⟨rfl, hb1⟩)
      | (go_at_call 103; refine (HN1.out _).mono ?_; rintro e w2 ⟨rfl, hb2⟩))
    generalize hW5 : w2.alloc (.cells #[.int .i64 K, .int .i64 n, .int .i64 0, .string ⟨#[]⟩, .slice none 0 0] 42) = W5
    obtain ⟨hE5, hb5⟩ := EBox.made hW5
    have HR2 : Hid (CBox w2 w.heap.size) := Lib.hid (Blk.below (Blk.below HR0.out hb1) hb2)
    have HG : Hid (w.heap.size < w2.heap.size) := Lib.hid (Blk.lt HR2.out)
    have HR5 : Hid (CBox W5 w.heap.size) := Lib.hid (Blk.below HR2.out hb5)
    have HB5 : Hid (Below w.heap.size w W5) := Lib.hid (below_thn (below_thn (below_thn HB0.out hb1) hb2) hb5)
    have HE5 := Lib.hid hE5
    clear hW5 hE5 hb5 hb1 hb2 hW0 HR2 HB0 HR0
    go_upto_region 13 with (first
      | (go_at_call 104; refine (HSl.out _).mono ?_; rintro e w3 ⟨rfl, hb3⟩)
      | (go_at_call 45; refine (HC2.out _).mono ?_; rintro e w4 ⟨rfl, hb4⟩)
      | (go_at_call 103; refine (HN2.out _).mono ?_; rintro e w5 ⟨rfl, hb5⟩))
    have HE6 : Hid (EBox w5 w2.heap.size K n 0 ⟨#[]⟩ (.slice none 0 0)) := Lib.hid (Blk.below (Blk.below (Blk.below HE5.out hb3) hb4) hb5)
    have HR6 : Hid (CBox w5 w.heap.size) := Lib.hid (Blk.below (Blk.below (Blk.below HR5.out hb3) hb4) hb5)
    have HB6 : Hid (Below w.heap.size w w5) := Lib.hid (below_thn (below_thn (below_thn HB5.out hb3) hb4) hb5)
    clear HE5 HR5 HB5 hb3 hb4 hb5
    generalize w2.heap.size = g at HE6 HG ⊢
    have c2 := (EBox.cells HE6.out).2.2.1
    have f2 := Blk.free HE6.out 2
    go_upto_region 14 with fail
    generalize hW6 : w5.setCell ⟨g, 2, none⟩ (.int .i64 m) = W6
    have HE : Hid (EBox W6 g K n m ⟨#[]⟩ (.slice none 0 0)) := Lib.hid (by rw [← hW6]; exact EBox.set2 HE6.out m)
    have HR : Hid (CBox W6 w.heap.size) := Lib.hid (by rw [← hW6]; exact Blk.setO HR6.out (by have := HG.out; simp only; omega) _)
    have HB : Hid (Below w.heap.size w W6) := Lib.hid (by rw [← hW6]; exact below_over HB6.out (Moved.set g 2 _ _) (Nat.le_of_lt HG.out) (Nat.le_refl _))
    clear hW6 c2 f2 HE6 HR6 HB6
    obtain ⟨c0, c1, c2, c3, c4⟩ := EBox.cells HE.out
    have f3 := Blk.free HE.out 3
    have f4 := Blk.free HE.out 4
    have HX : Hid (okO o = if b2 then none else some (C.event K n m ⟨#[]⟩ [])) := Lib.hid (by rw [ho]; cases b2 <;> rfl)
    clear ho
    cases b2
    all_goals
      simp only [if_true, Bool.false_eq_true, if_false] at HX
      go_wp2_with (go_at_call 102; refine (rof_any _ _ _ _ _ _ _ _).mono ?_; rintro e w8 ⟨rfl, hb8⟩; have HR8 : Hid (CBox w8 w.heap.size) := Lib.hid (Blk.below (HR.out) hb8); obtain ⟨r0, r1, r2, r3, r4, r5, r6, r7, r8, r9, r10, r11⟩ := CBox.cells HR8.out; obtain ⟨g0, g1, g2, g3, g4, g5, g6, g7, g8, g9, g10, g11⟩ := CBox.free HR8.out)
      refine bodyPost_ret (by simp [results, Tryz.results48, go_sem, r0, r1, r2, r3, r4, r5, r6, r7, r8, r9, r10, r11]; try rfl) rfl ?_
      exact RcE.fin (w8 := w8) (OwnC.ev (ps := []) (World.ownsRow_nil _ _ _ _) _ _ _ _) (by rw [HX.out]; rfl) (by intro d hd; rw [HX.out] at hd; cases hd <;> rfl) HR8.out (below_thn HB.out hb8) ((((((((((((Moved.set w.heap.size 0 _ _).trans (Moved.set w.heap.size 1 _ _)).trans (Moved.set w.heap.size 2 _ _)).trans (Moved.set w.heap.size 3 _ _)).trans (Moved.set w.heap.size 4 _ _)).trans (Moved.set w.heap.size 5 _ _)).trans (Moved.set w.heap.size 6 _ _)).trans (Moved.set w.heap.size 7 _ _)).trans (Moved.set w.heap.size 8 _ _)).trans (Moved.set w.heap.size 9 _ _)).trans (Moved.set w.heap.size 10 _ _)).trans (Moved.set w.heap.size 11 _ _))

end Go.Proofs.YtkkildkleleppaaGreatDoor
