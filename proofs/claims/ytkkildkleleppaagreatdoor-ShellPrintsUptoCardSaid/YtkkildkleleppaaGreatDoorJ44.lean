/- The document's events: values follow, or nothing. The document's events, all of them. Plain: what a line is read as, verb by verb. -/
import Derived.Test.YtkkildkleleppaaGreatDoorJ42
import Derived.Test.YtkkildkleleppaaGreatDoorJ43
namespace Go.Proofs.YtkkildkleleppaaGreatDoor
open Go.RowKit

set_option maxRecDepth 100000 in
set_option maxHeartbeats 4000000 in
/-- Values follow, or nothing: bind. -/
theorem revent_t3 (K : Int) (sl : Bool) (hsl0 : sl = true) (s s1 s2 : St) (n m : Int) (HS : ∀ w', Calls Tryz.prog 104 #[.int .i64 K] w' (Ret w' (.bool sl))) (hs : s.1.length ≤ 100000000) (hn : numS s = some (n, s1)) (hsl : slotR sl s1 = some (m, s2)) (w : World) (o : Option (C × Bool)) (ho : okO o = okO ((tailR 3 s2).map fun z => (C.event K n m z.1.1 z.1.2, z.2.2))) :
    Calls Tryz.prog 48 #[.string ⟨#[98, 105, 110, 100]⟩, .int .i64 K, .string ⟨s.1.toArray⟩, .bool s.2] w (RcE w o) := by
  subst hsl0
  obtain ⟨q2, b2⟩ := s2
  obtain ⟨l, mo⟩ := s
  obtain ⟨q1, b1⟩ := s1
  obtain ⟨rfl, x1, h1, hx1⟩ := numS_cut hn
  simp only at hs h1 ⊢
  have hz1 := cutX_len true false l
  rw [h1] at hz1
  simp only at hz1
  have hz1b : q1.length ≤ 100000000 := by omega
  have HC1 := Lib.hid (rcut_at true l x1 q1 b1 hs h1)
  have hN1 := rnumb_at x1 (by omega)
  rw [hx1] at hN1
  simp only [Option.getD_some, Option.isSome_some] at hN1
  have HN1 := Lib.hid hN1
  have HSl := Lib.hid HS
  clear hn hN1 h1 hz1 hx1 HS hs
  obtain ⟨W0, hW0⟩ : ∃ W0, w.alloc (.cells #[.int .i64 0, .int .i64 0, .int .i64 0, .int .i64 0, .int .i64 0, .string ⟨#[]⟩, .slice none 0 0, .int .i64 0, .bool false, .slice none 0 0, .int .i64 0, .slice none 0 0] 47) = W0 := ⟨_, rfl⟩
  have HB0 : Hid (Below w.heap.size w W0) := Lib.hid (by rw [← hW0]; exact below_alloc _ _)
  have HR0 : Hid (CBox W0 w.heap.size) := Lib.hid (by rw [← hW0]; exact Blk.new _ _ _)
  obtain ⟨rfl, x2, h2, hx2⟩ := numS_cut hsl
  simp only at h2
  have hz2 := cutX_len true false q1
  rw [h2] at hz2
  simp only at hz2
  have hqz : Hid (q2.length ≤ 100000000) := Lib.hid (by omega)
  have HC2 := Lib.hid (rcut_at true q1 x2 q2 b2 hz1b h2)
  have hN2 := rnumb_at x2 (by omega)
  rw [hx2] at hN2
  simp only [Option.getD_some, Option.isSome_some] at hN2
  have HN2 := Lib.hid hN2
  clear hN2 h2 hz2 hx2 hsl hz1b
  go_enter Tryz.func48, Tryz.ntmps48
  go_upto_region 6 with (first
    | (go_at_call 45; refine (HC1.out _).mono ?_; rintro e w1 ⟨rfl, hb1⟩)
    | (go_at_call 103; refine (HN1.out _).mono ?_; rintro e w2 ⟨rfl, hb2⟩))
  generalize hW5 : w2.alloc (.cells #[.int .i64 K, .int .i64 n, .int .i64 0, .string ⟨#[]⟩, .slice none 0 0] 42) = W5
  obtain ⟨hE5, hb5⟩ := EBox.made hW5
  have HR2 : Hid (CBox w2 w.heap.size) := Lib.hid (Blk.below (Blk.below HR0.out hb1) hb2)
  have HG : Hid (w.heap.size < w2.heap.size) := Lib.hid (Blk.lt HR2.out)
  have HR5 : Hid (CBox W5 w.heap.size) := Lib.hid (Blk.below HR2.out hb5)
  have HB5 : Hid (Below w.heap.size w W5) := Lib.hid (below_thn (below_thn (below_thn HB0.out hb1) hb2) hb5)
  have HE5 := Lib.hid hE5
  clear hW5 hE5 hb5 hb1 hb2 hW0 HR2 HB0 HR0
  go_upto_region 13 with (first
    | (go_at_call 104; refine (HSl.out _).mono ?_; rintro e w3 ⟨rfl, hb3⟩)
    | (go_at_call 45; refine (HC2.out _).mono ?_; rintro e w4 ⟨rfl, hb4⟩)
    | (go_at_call 103; refine (HN2.out _).mono ?_; rintro e w5 ⟨rfl, hb5⟩))
  have HE6 : Hid (EBox w5 w2.heap.size K n 0 ⟨#[]⟩ (.slice none 0 0)) := Lib.hid (Blk.below (Blk.below (Blk.below HE5.out hb3) hb4) hb5)
  have HR6 : Hid (CBox w5 w.heap.size) := Lib.hid (Blk.below (Blk.below (Blk.below HR5.out hb3) hb4) hb5)
  have HB6 : Hid (Below w.heap.size w w5) := Lib.hid (below_thn (below_thn (below_thn HB5.out hb3) hb4) hb5)
  clear HE5 HR5 HB5 hb3 hb4 hb5
  generalize w2.heap.size = g at HE6 HG ⊢
  have c2 := (EBox.cells HE6.out).2.2.1
  have f2 := Blk.free HE6.out 2
  go_upto_region 14 with fail
  generalize hW6 : w5.setCell ⟨g, 2, none⟩ (.int .i64 m) = W6
  have HE : Hid (EBox W6 g K n m ⟨#[]⟩ (.slice none 0 0)) := Lib.hid (by rw [← hW6]; exact EBox.set2 HE6.out m)
  have HR : Hid (CBox W6 w.heap.size) := Lib.hid (by rw [← hW6]; exact Blk.setO HR6.out (by have := HG.out; simp only; omega) _)
  have HB : Hid (Below w.heap.size w W6) := Lib.hid (by rw [← hW6]; exact below_over HB6.out (Moved.set g 2 _ _) (Nat.le_of_lt HG.out) (Nat.le_refl _))
  clear hW6 c2 f2 HE6 HR6 HB6
  obtain ⟨c0, c1, c2, c3, c4⟩ := EBox.cells HE.out
  have f3 := Blk.free HE.out 3
  have f4 := Blk.free HE.out 4
  cases b2 with
  | false =>
    have HX : Hid (okO o = some (C.event K n m ⟨#[]⟩ [])) := Lib.hid (by rw [ho]; rfl)
    clear ho
    go_wp2_with (go_at_call 102; refine (rof_any _ _ _ _ _ _ _ _).mono ?_; rintro e w8 ⟨rfl, hb8⟩; have HR8 : Hid (CBox w8 w.heap.size) := Lib.hid (Blk.below (HR.out) hb8); obtain ⟨r0, r1, r2, r3, r4, r5, r6, r7, r8, r9, r10, r11⟩ := CBox.cells HR8.out; obtain ⟨g0, g1, g2, g3, g4, g5, g6, g7, g8, g9, g10, g11⟩ := CBox.free HR8.out)
    refine bodyPost_ret (by simp [results, Tryz.results48, go_sem, r0, r1, r2, r3, r4, r5, r6, r7, r8, r9, r10, r11]; try rfl) rfl ?_
    exact RcE.fin (w8 := w8) (OwnC.ev (ps := []) (World.ownsRow_nil _ _ _ _) _ _ _ _) (by rw [HX.out]; rfl) (by intro d hd; rw [HX.out] at hd; cases hd <;> rfl) HR8.out (below_thn HB.out hb8) ((((((((((((Moved.set w.heap.size 0 _ _).trans (Moved.set w.heap.size 1 _ _)).trans (Moved.set w.heap.size 2 _ _)).trans (Moved.set w.heap.size 3 _ _)).trans (Moved.set w.heap.size 4 _ _)).trans (Moved.set w.heap.size 5 _ _)).trans (Moved.set w.heap.size 6 _ _)).trans (Moved.set w.heap.size 7 _ _)).trans (Moved.set w.heap.size 8 _ _)).trans (Moved.set w.heap.size 9 _ _)).trans (Moved.set w.heap.size 10 _ _)).trans (Moved.set w.heap.size 11 _ _))
  | true =>
    obtain ⟨x3, q3, b3, h3⟩ : ∃ x r b, cutX false false q2 = (x, r, b) := ⟨_, _, _, rfl⟩
    have hz3 := cutX_len false false q2
    rw [h3] at hz3
    simp only at hz3
    have hz3b := hqz.out
    have HC3 := Lib.hid (rcut_at false q2 x3 q3 b3 hqz.out h3)
    have HV3 := Lib.hid (rvals_at x3 (by omega))
    clear hz3 hz3b
    simp only [tailR, valsS, h3, if_true] at ho
    clear h3
    cases hv : readVs (splitC false [] x3) with
    | none =>
      rw [hv] at HV3 ho
      have HX : Hid (okO o = none) := Lib.hid (by rw [ho]; rfl)
      clear ho hv
      go_upto_region 31 with (first
        | (go_at_call 45; refine (HC3.out _).mono ?_; rintro e wc ⟨rfl, hbc⟩)
        | (go_at_call 105; refine (HV3.out _).mono ?_; rintro e wv ⟨rfl, hbv⟩; have HEv : Hid (EBox wv g K n m ⟨#[]⟩ (.slice none 0 0)) := Lib.hid (Blk.below (Blk.below HE.out hbc) hbv); have f4 := Blk.free HEv.out 4; obtain ⟨v0, v1, v2, v3, v4⟩ := EBox.cells HEv.out))
      generalize hW7 : wv.setCell ⟨g, 4, none⟩ (.slice none 0 0) = W7
      have HE7 : Hid (EBox W7 g K n m ⟨#[]⟩ (.slice none 0 0)) := Lib.hid (by rw [← hW7]; exact EBox.set4 HEv.out _)
      have HR7 : Hid (CBox W7 w.heap.size) := Lib.hid (by rw [← hW7]; exact Blk.setO (Blk.below (Blk.below HR.out hbc) hbv) (by have := HG.out; simp only; omega) _)
      have HB7 : Hid (Below w.heap.size w W7) := Lib.hid (by rw [← hW7]; exact below_over (below_thn (below_thn HB.out hbc) hbv) (Moved.set g 4 _ _) (Nat.le_of_lt HG.out) (Nat.le_refl _))
      clear hW7 c0 c1 c2 c3 c4 HE HR HB v0 v1 v2 v3 v4 HEv hbc hbv
      obtain ⟨c0, c1, c2, c3, c4⟩ := EBox.cells HE7.out
      cases b3
      all_goals
        go_wp2_with (go_at_call 102; refine (rof_any _ _ _ _ _ _ _ _).mono ?_; rintro e w8 ⟨rfl, hb8⟩; have HR8 : Hid (CBox w8 w.heap.size) := Lib.hid (Blk.below (HR7.out) hb8); obtain ⟨r0, r1, r2, r3, r4, r5, r6, r7, r8, r9, r10, r11⟩ := CBox.cells HR8.out; obtain ⟨g0, g1, g2, g3, g4, g5, g6, g7, g8, g9, g10, g11⟩ := CBox.free HR8.out)
        refine bodyPost_ret (by simp [results, Tryz.results48, go_sem, r0, r1, r2, r3, r4, r5, r6, r7, r8, r9, r10, r11]; try rfl) rfl ?_
        exact RcE.fin (w8 := w8) (OwnC.ev (ps := []) (World.ownsRow_nil _ _ _ _) _ _ _ _) (by rw [HX.out]; rfl) (by intro d hd; rw [HX.out] at hd; cases hd <;> rfl) HR8.out (below_thn HB7.out hb8) ((((((((((((Moved.set w.heap.size 0 _ _).trans (Moved.set w.heap.size 1 _ _)).trans (Moved.set w.heap.size 2 _ _)).trans (Moved.set w.heap.size 3 _ _)).trans (Moved.set w.heap.size 4 _ _)).trans (Moved.set w.heap.size 5 _ _)).trans (Moved.set w.heap.size 6 _ _)).trans (Moved.set w.heap.size 7 _ _)).trans (Moved.set w.heap.size 8 _ _)).trans (Moved.set w.heap.size 9 _ _)).trans (Moved.set w.heap.size 10 _ _)).trans (Moved.set w.heap.size 11 _ _))
    | some vs =>
      rw [hv] at HV3 ho
      have HX : Hid (okO o = if b3 then none else some (C.event K n m ⟨#[]⟩ vs)) := Lib.hid (by rw [ho]; cases b3 <;> rfl)
      clear ho hv
      go_upto_region 31 with (first
        | (go_at_call 45; refine (HC3.out _).mono ?_; rintro e wc ⟨rfl, hbc⟩)
        | (go_at_call 105; refine (HV3.out _).mono ?_; rintro e wv ⟨v, rfl, hown, hbv⟩; obtain ⟨va, vc, hve, -, -, -⟩ := own_form hown; subst hve; have HEv : Hid (EBox wv g K n m ⟨#[]⟩ (.slice none 0 0)) := Lib.hid (Blk.below (Blk.below HE.out hbc) hbv); have f4 := Blk.free HEv.out 4; obtain ⟨v0, v1, v2, v3, v4⟩ := EBox.cells HEv.out))
      generalize hW7 : wv.setCell ⟨g, 4, none⟩ (.slice va vs.length vc) = W7
      have HE7 : Hid (EBox W7 g K n m ⟨#[]⟩ (.slice va vs.length vc)) := Lib.hid (by rw [← hW7]; exact EBox.set4 HEv.out _)
      have HR7 : Hid (CBox W7 w.heap.size) := Lib.hid (by rw [← hW7]; exact Blk.setO (Blk.below (Blk.below HR.out hbc) hbv) (by have := HG.out; simp only; omega) _)
      have HB7 : Hid (Below w.heap.size w W7) := Lib.hid (by rw [← hW7]; exact below_over (below_thn (below_thn HB.out hbc) hbv) (Moved.set g 4 _ _) (Nat.le_of_lt HG.out) (Nat.le_refl _))
      have HO7 : Hid (W7.ownsRow w.heap.size 80 3 (.slice va vs.length vc) vs.length (vcells vs)) := Lib.hid (by rw [← hW7]; exact Blk.own_set HEv.out (own_mono (Nat.le_trans HB.out.size hbc.size) hown) (by decide) 4 _)
      clear hW7 c0 c1 c2 c3 c4 HE HR HB v0 v1 v2 v3 v4 HEv hbc hbv hown
      obtain ⟨c0, c1, c2, c3, c4⟩ := EBox.cells HE7.out
      cases b3
      all_goals
        simp only [if_true, Bool.false_eq_true, if_false] at HX
        go_wp2_with (go_at_call 102; refine (rof_any _ _ _ _ _ _ _ _).mono ?_; rintro e w8 ⟨rfl, hb8⟩; have HR8 : Hid (CBox w8 w.heap.size) := Lib.hid (Blk.below (HR7.out) hb8); obtain ⟨r0, r1, r2, r3, r4, r5, r6, r7, r8, r9, r10, r11⟩ := CBox.cells HR8.out; obtain ⟨g0, g1, g2, g3, g4, g5, g6, g7, g8, g9, g10, g11⟩ := CBox.free HR8.out)
        refine bodyPost_ret (by simp [results, Tryz.results48, go_sem, r0, r1, r2, r3, r4, r5, r6, r7, r8, r9, r10, r11]; try rfl) rfl ?_
        exact RcE.fin (w8 := w8) (OwnC.ev (own_kept HO7.out hb8) _ _ _ _) (by rw [HX.out]; rfl) (by intro d hd; rw [HX.out] at hd; cases hd <;> rfl) HR8.out (below_thn HB7.out hb8) ((((((((((((Moved.set w.heap.size 0 _ _).trans (Moved.set w.heap.size 1 _ _)).trans (Moved.set w.heap.size 2 _ _)).trans (Moved.set w.heap.size 3 _ _)).trans (Moved.set w.heap.size 4 _ _)).trans (Moved.set w.heap.size 5 _ _)).trans (Moved.set w.heap.size 6 _ _)).trans (Moved.set w.heap.size 7 _ _)).trans (Moved.set w.heap.size 8 _ _)).trans (Moved.set w.heap.size 9 _ _)).trans (Moved.set w.heap.size 10 _ _)).trans (Moved.set w.heap.size 11 _ _))
end Go.Proofs.YtkkildkleleppaaGreatDoor
namespace Go.Proofs.YtkkildkleleppaaGreatDoor
open Go.RowKit

theorem revent_any (i : Nat) (hi : i < 9) (s : St) (hs : s.1.length ≤ 100000000) (w : World) :
    Calls Tryz.prog 48 #[.string ⟨(verbW i).toArray⟩, .int .i64 (evKind i), .string ⟨s.1.toArray⟩, .bool s.2] w (RcE w (eventR (evKind i) (evSlot i) (evTail i) s)) := by
  have HS := rslot_some i hi
  cases hn : numS s with
  | none => exact revent_1 ⟨(verbW i).toArray⟩ (evKind i) s hs hn w _ (by unfold eventR; rw [hn])
  | some x =>
    obtain ⟨n, s1⟩ := x
    cases hsl : slotR (evSlot i) s1 with
    | none =>
      cases hb : evSlot i with
      | false => rw [hb] at hsl; simp [slotR] at hsl
      | true =>
        rw [hb] at HS hsl
        simp only [slotR, if_true] at hsl
        exact revent_2 ⟨(verbW i).toArray⟩ (evKind i) s s1 n HS hs hn hsl w _ (by unfold eventR; rw [hn]; simp only [slotR, if_true, hsl])
    | some y =>
      obtain ⟨m, s2⟩ := y
      have hE : eventR (evKind i) (evSlot i) (evTail i) s = (tailR (evTail i) s2).map fun z => (C.event (evKind i) n m z.1.1 z.1.2, z.2.2) := by unfold eventR; rw [hn]; simp only [hsl]
      rw [hE]
      obtain rfl | rfl | rfl | rfl | rfl | rfl | rfl | rfl | rfl : i = 0 ∨ i = 1 ∨ i = 2 ∨ i = 3 ∨ i = 4 ∨ i = 5 ∨ i = 6 ∨ i = 7 ∨ i = 8 := by omega
      · exact revent_t0 (verbW 0) _ _ s s1 s2 n m HS hs hn hsl (by decide) (by decide) (by decide) (by decide) w _ rfl
      · exact revent_t0 (verbW 1) _ _ s s1 s2 n m HS hs hn hsl (by decide) (by decide) (by decide) (by decide) w _ rfl
      · exact revent_t1a _ _ rfl s s1 s2 n m HS hs hn hsl w _ rfl
      · exact revent_t2 _ _ rfl s s1 s2 n m HS hs hn hsl w _ rfl
      · exact revent_t1b _ _ rfl s s1 s2 n m HS hs hn hsl w _ rfl
      · exact revent_t3 _ _ rfl s s1 s2 n m HS hs hn hsl w _ rfl
      · exact revent_t0 (verbW 6) _ _ s s1 s2 n m HS hs hn hsl (by decide) (by decide) (by decide) (by decide) w _ rfl
      · exact revent_t0 (verbW 7) _ _ s s1 s2 n m HS hs hn hsl (by decide) (by decide) (by decide) (by decide) w _ rfl
      · exact revent_t0 (verbW 8) _ _ s s1 s2 n m HS hs hn hsl (by decide) (by decide) (by decide) (by decide) w _ rfl
end Go.Proofs.YtkkildkleleppaaGreatDoor
