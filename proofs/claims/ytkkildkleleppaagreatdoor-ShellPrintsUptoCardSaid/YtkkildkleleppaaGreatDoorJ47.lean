/- The document's Parse: a load. The document's Parse: a word alone. -/
import Derived.Test.YtkkildkleleppaaGreatDoorJ40
import Derived.Test.YtkkildkleleppaaGreatDoorJ41
namespace Go.Proofs.YtkkildkleleppaaGreatDoor
open Go.RowKit

set_option maxRecDepth 100000 in
set_option maxHeartbeats 4000000 in
/-- A load. -/
theorem rparse_load (l : List UInt8) (hl : l.length ≤ 16777216) (h : verbNo (cutX true false l).1 = some 16) (w : World) (hE : Env w) : Calls Tryz.prog 17 #[.string ⟨l.toArray⟩] w (ParseE w (parseS l)) := by
  have hl0 := hl
  replace hl : l.length ≤ 100000000 := by omega
  obtain ⟨wd, q, b, h1⟩ : ∃ x r b, cutX true false l = (x, r, b) := ⟨_, _, _, rfl⟩
  have hx := cutX_len true false l
  rw [h1] at hx
  simp only at hx
  have HC1 := Lib.hid (rcut_at true l wd q b hl h1)
  have HQl : Hid (q.length ≤ l.length) := Lib.hid hx.2
  rw [h1] at h
  simp only at h
  obtain ⟨-, hw⟩ := verbNo_some h
  subst hw
  have HEw := Lib.hid hE
  have HPS := Lib.hid (parse_load (l := l) h1 h)
  have HPl := Lib.hid (fun w' => rplain_none (verbW 16) (fun j hj e => by have := verbW_inj (by omega) (by omega) e; omega) w')
  have HK := Lib.hid (fun w' => rkind_none (verbW 16) (fun j hj e => by have := verbW_inj (by omega) (by omega) e; omega) w')
  have hV := fun w' hE => rload_any (q, b) (by simp only; omega) w' hE
  simp only at hV
  clear h hx h1 hl0 hE
  simp only [verbW] at HC1 HPl HK
  obtain ⟨W0, hW0⟩ : ∃ W0, w.alloc (.cells #[.int .i64 0, .int .i64 0, .int .i64 0, .int .i64 0, .int .i64 0, .string ⟨#[]⟩, .slice none 0 0, .int .i64 0, .bool false, .slice none 0 0, .int .i64 0, .slice none 0 0] 47) = W0 := ⟨_, rfl⟩
  have HB0 : Hid (Below w.heap.size w W0) := Lib.hid (by rw [← hW0]; exact below_alloc _ _)
  have HR0 : Hid (CBox W0 w.heap.size) := Lib.hid (by rw [← hW0]; exact Blk.new _ _ _)
  cases hk : firstE (loadR (q, b)) with
  | error n =>
    have HX : Hid (parseS l = .error n) := Lib.hid (by rw [HPS.out, hk])
    rw [hk] at hV
    have HV := Lib.hid hV
    clear hk hV
    go_enter Tryz.func17, Tryz.ntmps17
    go_upto_region 3 with (first
      | (go_at_call 45; refine (HC1.out _).mono ?_; rintro e w1 ⟨rfl, hb1⟩)
      | (go_at_call 46; refine (HPl.out _).mono ?_; rintro e w2 ⟨rfl, hb2⟩))
    generalize hW3 : w2.alloc (Obj.cells #[.int .i64 0, .int .i64 0, .int .i64 0, .int .i64 0, .int .i64 0, .string ⟨#[]⟩, .slice none 0 0, .int .i64 0, .bool false, .slice none 0 0, .int .i64 0, .slice none 0 0] 47) = W3
    have HR2 : Hid (CBox w2 w.heap.size) := Lib.hid (Blk.below (Blk.below HR0.out hb1) hb2)
    have HG : Hid (w.heap.size < w2.heap.size) := Lib.hid (Blk.lt HR2.out)
    have HQ3 : Hid (CBox W3 w2.heap.size) := Lib.hid (by rw [← hW3]; exact Blk.new _ _ _)
    have HR3 : Hid (CBox W3 w.heap.size) := Lib.hid (by rw [← hW3]; exact Blk.alloc HR2.out _)
    have HB3 : Hid (Below w.heap.size w W3) := Lib.hid (by rw [← hW3]; exact below_thn (below_thn (below_thn HB0.out hb1) hb2) (below_alloc _ _))
    generalize w2.heap.size = g at HG HQ3 ⊢
    clear hW3 hb1 hb2 HR2 hW0 HR0 HB0
    go_wp2_with (first
      | (go_at_call 47; refine (HK.out _).mono ?_; rintro e w4 ⟨rfl, hb4⟩)
      | (go_at_call 51; refine (HV.out _ (HEw.out.below (below_thn HB3.out hb4))).mono ?_; rintro e w5 ⟨rfl, hb5⟩; have HR5 : Hid (CBox w5 w.heap.size) := Lib.hid (Blk.below (Blk.below HR3.out hb4) hb5); obtain ⟨r0, r1, r2, r3, r4, r5, r6, r7, r8, r9, r10, r11⟩ := CBox.cells HR5.out; obtain ⟨g0, g1, g2, g3, g4, g5, g6, g7, g8, g9, g10, g11⟩ := CBox.free HR5.out))
    refine bodyPost_ret (by simp [results, Tryz.results17, go_sem, r0, r1, r2, r3, r4, r5, r6, r7, r8, r9, r10, r11]; try rfl) rfl ?_
    exact ParseE.no HX.out (below_over (below_thn (below_thn HB3.out hb4) hb5) ((((((((((((Moved.set w.heap.size 0 _ _).trans (Moved.set w.heap.size 1 _ _)).trans (Moved.set w.heap.size 2 _ _)).trans (Moved.set w.heap.size 3 _ _)).trans (Moved.set w.heap.size 4 _ _)).trans (Moved.set w.heap.size 5 _ _)).trans (Moved.set w.heap.size 6 _ _)).trans (Moved.set w.heap.size 7 _ _)).trans (Moved.set w.heap.size 8 _ _)).trans (Moved.set w.heap.size 9 _ _)).trans (Moved.set w.heap.size 10 _ _)).trans (Moved.set w.heap.size 11 _ _)) (Nat.le_refl _) (Nat.le_refl _))
  | ok c =>
    have HX : Hid (parseS l = .ok c) := Lib.hid (by rw [HPS.out, hk])
    rw [hk] at hV
    have HV := Lib.hid hV
    clear hk hV
    go_enter Tryz.func17, Tryz.ntmps17
    go_upto_region 3 with (first
      | (go_at_call 45; refine (HC1.out _).mono ?_; rintro e w1 ⟨rfl, hb1⟩)
      | (go_at_call 46; refine (HPl.out _).mono ?_; rintro e w2 ⟨rfl, hb2⟩))
    generalize hW3 : w2.alloc (Obj.cells #[.int .i64 0, .int .i64 0, .int .i64 0, .int .i64 0, .int .i64 0, .string ⟨#[]⟩, .slice none 0 0, .int .i64 0, .bool false, .slice none 0 0, .int .i64 0, .slice none 0 0] 47) = W3
    have HR2 : Hid (CBox w2 w.heap.size) := Lib.hid (Blk.below (Blk.below HR0.out hb1) hb2)
    have HG : Hid (w.heap.size < w2.heap.size) := Lib.hid (Blk.lt HR2.out)
    have HQ3 : Hid (CBox W3 w2.heap.size) := Lib.hid (by rw [← hW3]; exact Blk.new _ _ _)
    have HR3 : Hid (CBox W3 w.heap.size) := Lib.hid (by rw [← hW3]; exact Blk.alloc HR2.out _)
    have HB3 : Hid (Below w.heap.size w W3) := Lib.hid (by rw [← hW3]; exact below_thn (below_thn (below_thn HB0.out hb1) hb2) (below_alloc _ _))
    generalize w2.heap.size = g at HG HQ3 ⊢
    clear hW3 hb1 hb2 HR2 hW0 HR0 HB0
    go_wp2_with (first
      | (go_at_call 47; refine (HK.out _).mono ?_; rintro e w4 ⟨rfl, hb4⟩)
      | (go_at_call 51; refine (HV.out _ (HEw.out.below (below_thn HB3.out hb4))).mono ?_; rintro e w5 ⟨v, rfl, hown, hb5⟩; obtain ⟨pv, cv, tv, xs, hve, ho1, ho2, ho3, htr⟩ := hown; obtain ⟨pa, pc, hpv, -, -, -⟩ := own_form ho1; obtain ⟨ca, cc, hcv, -, -, -⟩ := own_form ho2; obtain ⟨ta, tc, htv, -, -, -⟩ := own_form ho3; subst hpv hcv htv; unfold C.val cmdV at hve; subst hve; have HR5 : Hid (CBox w5 w.heap.size) := Lib.hid (Blk.below (Blk.below HR3.out hb4) hb5); obtain ⟨r0, r1, r2, r3, r4, r5, r6, r7, r8, r9, r10, r11⟩ := CBox.cells HR5.out; obtain ⟨g0, g1, g2, g3, g4, g5, g6, g7, g8, g9, g10, g11⟩ := CBox.free HR5.out))
    refine bodyPost_ret (by simp [results, Tryz.results17, go_sem, r0, r1, r2, r3, r4, r5, r6, r7, r8, r9, r10, r11]; try rfl) rfl ?_
    have HC5 : OwnC w5 w.heap.size (c.val (.slice pa c.ps.length pc) (.slice ca c.ch.length cc) (.slice ta c.told.length tc)) c := OwnC.mono ⟨_, _, _, xs, rfl, ho1, ho2, ho3, htr⟩ (below_thn HB3.out hb4).size
    exact ParseE.yes HX.out (HC5.movedR HR5.out ((((((((((((Moved.set w.heap.size 0 _ _).trans (Moved.set w.heap.size 1 _ _)).trans (Moved.set w.heap.size 2 _ _)).trans (Moved.set w.heap.size 3 _ _)).trans (Moved.set w.heap.size 4 _ _)).trans (Moved.set w.heap.size 5 _ _)).trans (Moved.set w.heap.size 6 _ _)).trans (Moved.set w.heap.size 7 _ _)).trans (Moved.set w.heap.size 8 _ _)).trans (Moved.set w.heap.size 9 _ _)).trans (Moved.set w.heap.size 10 _ _)).trans (Moved.set w.heap.size 11 _ _))) (below_over (below_thn (below_thn HB3.out hb4) hb5) ((((((((((((Moved.set w.heap.size 0 _ _).trans (Moved.set w.heap.size 1 _ _)).trans (Moved.set w.heap.size 2 _ _)).trans (Moved.set w.heap.size 3 _ _)).trans (Moved.set w.heap.size 4 _ _)).trans (Moved.set w.heap.size 5 _ _)).trans (Moved.set w.heap.size 6 _ _)).trans (Moved.set w.heap.size 7 _ _)).trans (Moved.set w.heap.size 8 _ _)).trans (Moved.set w.heap.size 9 _ _)).trans (Moved.set w.heap.size 10 _ _)).trans (Moved.set w.heap.size 11 _ _)) (Nat.le_refl _) (Nat.le_refl _))
end Go.Proofs.YtkkildkleleppaaGreatDoor
namespace Go.Proofs.YtkkildkleleppaaGreatDoor
open Go.RowKit

set_option maxRecDepth 100000 in
set_option maxHeartbeats 4000000 in
/-- A word alone. -/
theorem rparse_plain (i : Nat) (hi : i = 9 ∨ i = 10 ∨ i = 14 ∨ i = 15) (l : List UInt8) (hl : l.length ≤ 100000000) (h : verbNo (cutX true false l).1 = some i) (w : World) : Calls Tryz.prog 17 #[.string ⟨l.toArray⟩] w (ParseE w (parseS l)) := by
  obtain ⟨wd, q, b, h1⟩ : ∃ x r b, cutX true false l = (x, r, b) := ⟨_, _, _, rfl⟩
  have hx := cutX_len true false l
  rw [h1] at hx
  simp only at hx
  have HC1 := Lib.hid (rcut_at true l wd q b hl h1)
  have HQl : Hid (q.length ≤ l.length) := Lib.hid hx.2
  rw [h1] at h
  simp only at h
  obtain ⟨-, hw⟩ := verbNo_some h
  subst hw
  have HPS := Lib.hid (parse_plain (l := l) h1 h (by rcases hi with rfl | rfl | rfl | rfl <;> rfl))
  have hP := fun w' => rplain_some i hi w'
  have hc : (plainC i).ps = [] ∧ (plainC i).ch = [] ∧ (plainC i).told = [] := by rcases hi with rfl | rfl | rfl | rfl <;> exact ⟨rfl, rfl, rfl⟩
  generalize plainC i = c at hP hc HPS
  generalize verbW i = wd at hP HC1
  unfold C.val cmdV at hP
  have HPl := Lib.hid hP
  have HN := Lib.hid hc
  clear hP hc h hx h1
  obtain ⟨W0, hW0⟩ : ∃ W0, w.alloc (.cells #[.int .i64 0, .int .i64 0, .int .i64 0, .int .i64 0, .int .i64 0, .string ⟨#[]⟩, .slice none 0 0, .int .i64 0, .bool false, .slice none 0 0, .int .i64 0, .slice none 0 0] 47) = W0 := ⟨_, rfl⟩
  have HB0 : Hid (Below w.heap.size w W0) := Lib.hid (by rw [← hW0]; exact below_alloc _ _)
  have HR0 : Hid (CBox W0 w.heap.size) := Lib.hid (by rw [← hW0]; exact Blk.new _ _ _)
  cases b
  all_goals
    go_enter Tryz.func17, Tryz.ntmps17
    go_upto_region 3 with (first
      | (go_at_call 45; refine (HC1.out _).mono ?_; rintro e w1 ⟨rfl, hb1⟩)
      | (go_at_call 46; refine (HPl.out _).mono ?_; rintro e w2 ⟨rfl, hb2⟩))
    generalize hW3 : w2.alloc (Obj.cells #[.int .i64 c.k, .int .i64 c.ak, .int .i64 c.ek, .int .i64 c.ec, .int .i64 c.es, .string c.sql, .slice none 0 0, .int .i64 c.n, .bool c.log, .slice none 0 0, .int .i64 c.conn, .slice none 0 0] 47) = W3
    have HR2 : Hid (CBox w2 w.heap.size) := Lib.hid (Blk.below (Blk.below HR0.out hb1) hb2)
    have HQ3 : Hid (Blk W3 w2.heap.size #[.int .i64 c.k, .int .i64 c.ak, .int .i64 c.ek, .int .i64 c.ec, .int .i64 c.es, .string c.sql, .slice none 0 0, .int .i64 c.n, .bool c.log, .slice none 0 0, .int .i64 c.conn, .slice none 0 0] 47) := Lib.hid (by rw [← hW3]; exact Blk.new _ _ _)
    have HR3 : Hid (CBox W3 w.heap.size) := Lib.hid (by rw [← hW3]; exact Blk.alloc HR2.out _)
    have HB3 : Hid (Below w.heap.size w W3) := Lib.hid (by rw [← hW3]; exact below_thn (below_thn (below_thn HB0.out hb1) hb2) (below_alloc _ _))
    generalize w2.heap.size = g at HQ3 ⊢
    clear hW3 hb1 hb2 HR2 hW0 HR0 HB0
    obtain ⟨u0, u1, u2, u3, u4, u5, u6, u7, u8, u9, u10, u11⟩ := Blk.c12 HQ3.out
    obtain ⟨r0, r1, r2, r3, r4, r5, r6, r7, r8, r9, r10, r11⟩ := CBox.cells HR3.out; obtain ⟨g0, g1, g2, g3, g4, g5, g6, g7, g8, g9, g10, g11⟩ := CBox.free HR3.out
    go_wp2_with fail
    refine bodyPost_ret (by simp [results, Tryz.results17, go_sem, r0, r1, r2, r3, r4, r5, r6, r7, r8, r9, r10, r11]; try rfl) rfl ?_
  · refine ParseE.yes (c := c) (by rw [HPS.out]; rfl) (OwnC.movedR (v := c.val (.slice none 0 0) (.slice none 0 0) (.slice none 0 0)) ⟨_, _, _, [], rfl, by rw [HN.out.1]; exact World.ownsRow_nil _ _ _ _, by rw [HN.out.2.1]; exact World.ownsRow_nil _ _ _ _, by rw [HN.out.2.2]; exact World.ownsRow_nil _ _ _ _, by rw [HN.out.2.2]; exact TRow.nil_ _ _ _⟩ HR3.out ((((((((((((Moved.set w.heap.size 0 _ _).trans (Moved.set w.heap.size 1 _ _)).trans (Moved.set w.heap.size 2 _ _)).trans (Moved.set w.heap.size 3 _ _)).trans (Moved.set w.heap.size 4 _ _)).trans (Moved.set w.heap.size 5 _ _)).trans (Moved.set w.heap.size 6 _ _)).trans (Moved.set w.heap.size 7 _ _)).trans (Moved.set w.heap.size 8 _ _)).trans (Moved.set w.heap.size 9 _ _)).trans (Moved.set w.heap.size 10 _ _)).trans (Moved.set w.heap.size 11 _ _))) (below_over HB3.out ((((((((((((Moved.set w.heap.size 0 _ _).trans (Moved.set w.heap.size 1 _ _)).trans (Moved.set w.heap.size 2 _ _)).trans (Moved.set w.heap.size 3 _ _)).trans (Moved.set w.heap.size 4 _ _)).trans (Moved.set w.heap.size 5 _ _)).trans (Moved.set w.heap.size 6 _ _)).trans (Moved.set w.heap.size 7 _ _)).trans (Moved.set w.heap.size 8 _ _)).trans (Moved.set w.heap.size 9 _ _)).trans (Moved.set w.heap.size 10 _ _)).trans (Moved.set w.heap.size 11 _ _)) (Nat.le_refl _) (Nat.le_refl _))
  · exact ParseE.no (by rw [HPS.out]; rfl) (below_over HB3.out ((((((((((((Moved.set w.heap.size 0 _ _).trans (Moved.set w.heap.size 1 _ _)).trans (Moved.set w.heap.size 2 _ _)).trans (Moved.set w.heap.size 3 _ _)).trans (Moved.set w.heap.size 4 _ _)).trans (Moved.set w.heap.size 5 _ _)).trans (Moved.set w.heap.size 6 _ _)).trans (Moved.set w.heap.size 7 _ _)).trans (Moved.set w.heap.size 8 _ _)).trans (Moved.set w.heap.size 9 _ _)).trans (Moved.set w.heap.size 10 _ _)).trans (Moved.set w.heap.size 11 _ _)) (Nat.le_refl _) (Nat.le_refl _))
end Go.Proofs.YtkkildkleleppaaGreatDoor
