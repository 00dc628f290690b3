/- The document's Parse: a restart. The document's Parse: a word with a number. -/
import Derived.Test.YtkkildkleleppaaGreatDoorJ45
import Derived.Test.YtkkildkleleppaaGreatDoorJ41
import Derived.Test.YtkkildkleleppaaGreatDoorJ40
namespace Go.Proofs.YtkkildkleleppaaGreatDoor
open Go.RowKit

set_option maxRecDepth 100000 in
set_option maxHeartbeats 4000000 in
/-- A restart. -/
theorem rparse_restart (l : List UInt8) (hl : l.length ≤ 100000000) (h : verbNo (cutX true false l).1 = some 13) (w : World) : Calls Tryz.prog 17 #[.string ⟨l.toArray⟩] w (ParseE w (parseS l)) := by
  obtain ⟨wd, q, b, h1⟩ : ∃ x r b, cutX true false l = (x, r, b) := ⟨_, _, _, rfl⟩
  have hx := cutX_len true false l
  rw [h1] at hx
  simp only at hx
  have HC1 := Lib.hid (rcut_at true l wd q b hl h1)
  have HQl : Hid (q.length ≤ l.length) := Lib.hid hx.2
  rw [h1] at h
  simp only at h
  obtain ⟨-, hw⟩ := verbNo_some h
  subst hw
  obtain ⟨o, ho⟩ : ∃ o, restartR (q, b) = o := ⟨_, rfl⟩
  have HPS := Lib.hid (parse_words (l := l) h1 (o := o) h (by rw [← ho]; rfl))
  have HPl := Lib.hid (fun w' => rplain_none (verbW 13) (fun j hj e => by have := verbW_inj (by omega) (by omega) e; omega) w')
  have HK := Lib.hid (fun w' => rkind_none (verbW 13) (fun j hj e => by have := verbW_inj (by omega) (by omega) e; omega) w')
  have hV := fun w' => rrestart_any (q, b) (by simp only; omega) w'
  rw [ho] at hV
  simp only at hV
  have HV := Lib.hid hV
  clear hV ho h hx h1
  simp only [verbW] at HC1 HPl HK
  obtain ⟨W0, hW0⟩ : ∃ W0, w.alloc (.cells #[.int .i64 0, .int .i64 0, .int .i64 0, .int .i64 0, .int .i64 0, .string ⟨#[]⟩, .slice none 0 0, .int .i64 0, .bool false, .slice none 0 0, .int .i64 0, .slice none 0 0] 47) = W0 := ⟨_, rfl⟩
  have HB0 : Hid (Below w.heap.size w W0) := Lib.hid (by rw [← hW0]; exact below_alloc _ _)
  have HR0 : Hid (CBox W0 w.heap.size) := Lib.hid (by rw [← hW0]; exact Blk.new _ _ _)
  cases hk : okO o with
  | none =>
    have HX : Hid (parseS l = .error 421) := Lib.hid (by rw [HPS.out, hk])
    have HK0 := Lib.hid hk
    clear hk
    go_enter Tryz.func17, Tryz.ntmps17
    go_upto_region 3 with (first
      | (go_at_call 45; refine (HC1.out _).mono ?_; rintro e w1 ⟨rfl, hb1⟩)
      | (go_at_call 46; refine (HPl.out _).mono ?_; rintro e w2 ⟨rfl, hb2⟩))
    generalize hW3 : w2.alloc (Obj.cells #[.int .i64 0, .int .i64 0, .int .i64 0, .int .i64 0, .int .i64 0, .string ⟨#[]⟩, .slice none 0 0, .int .i64 0, .bool false, .slice none 0 0, .int .i64 0, .slice none 0 0] 47) = W3
    have HR2 : Hid (CBox w2 w.heap.size) := Lib.hid (Blk.below (Blk.below HR0.out hb1) hb2)
    have HG : Hid (w.heap.size < w2.heap.size) := Lib.hid (Blk.lt HR2.out)
    have HQ3 : Hid (CBox W3 w2.heap.size) := Lib.hid (by rw [← hW3]; exact Blk.new _ _ _)
    have HR3 : Hid (CBox W3 w.heap.size) := Lib.hid (by rw [← hW3]; exact Blk.alloc HR2.out _)
    have HB3 : Hid (Below w.heap.size w W3) := Lib.hid (by rw [← hW3]; exact below_thn (below_thn (below_thn HB0.out hb1) hb2) (below_alloc _ _))
    generalize w2.heap.size = g at HG HQ3 ⊢
    clear hW3 hb1 hb2 HR2 hW0 HR0 HB0
    go_upto_region 17 with (first
      | (go_at_call 47; refine (HK.out _).mono ?_; rintro e w4 ⟨rfl, hb4⟩)
      | (go_at_call 50; refine (HV.out _).mono ?_; rintro e w5 ⟨v, c, hev, hown, hb5, -⟩; rw [HK0.out] at hev; simp only [Option.isSome_none] at hev; subst hev; obtain ⟨pv, cv, tv, xs, hve, ho1, ho2, ho3, htr⟩ := hown; obtain ⟨pa, pc, hpv, -, -, -⟩ := own_form ho1; obtain ⟨ca, cc, hcv, -, -, -⟩ := own_form ho2; obtain ⟨ta, tc, htv, -, -, -⟩ := own_form ho3; subst hpv hcv htv; unfold C.val cmdV at hve; subst hve; have HQ5 : Hid (CBox w5 g) := Lib.hid (Blk.below (Blk.below HQ3.out hb4) hb5); obtain ⟨s0, s1, s2, s3, s4, s5, s6, s7, s8, s9, s10, s11⟩ := CBox.cells HQ5.out; obtain ⟨t0, t1, t2, t3, t4, t5, t6, t7, t8, t9, t10, t11⟩ := CBox.free HQ5.out))
    generalize hW7 : ((((((((((((w5).setCell ⟨g, 0, none⟩ (.int .i64 c.k)).setCell ⟨g, 1, none⟩ (.int .i64 c.ak)).setCell ⟨g, 2, none⟩ (.int .i64 c.ek)).setCell ⟨g, 3, none⟩ (.int .i64 c.ec)).setCell ⟨g, 4, none⟩ (.int .i64 c.es)).setCell ⟨g, 5, none⟩ (.string c.sql)).setCell ⟨g, 6, none⟩ (.slice pa c.ps.length pc)).setCell ⟨g, 7, none⟩ (.int .i64 c.n)).setCell ⟨g, 8, none⟩ (.bool c.log)).setCell ⟨g, 9, none⟩ (.slice ca c.ch.length cc)).setCell ⟨g, 10, none⟩ (.int .i64 c.conn)).setCell ⟨g, 11, none⟩ (.slice ta c.told.length tc) = W7
    have hm12 : Moved g w5 W7 := by rw [← hW7]; exact ((((((((((((Moved.set g 0 _ _).trans (Moved.set g 1 _ _)).trans (Moved.set g 2 _ _)).trans (Moved.set g 3 _ _)).trans (Moved.set g 4 _ _)).trans (Moved.set g 5 _ _)).trans (Moved.set g 6 _ _)).trans (Moved.set g 7 _ _)).trans (Moved.set g 8 _ _)).trans (Moved.set g 9 _ _)).trans (Moved.set g 10 _ _)).trans (Moved.set g 11 _ _))
    have HQ7 : Hid (Blk W7 g #[.int .i64 c.k, .int .i64 c.ak, .int .i64 c.ek, .int .i64 c.ec, .int .i64 c.es, .string c.sql, .slice pa c.ps.length pc, .int .i64 c.n, .bool c.log, .slice ca c.ch.length cc, .int .i64 c.conn, .slice ta c.told.length tc] 47) := Lib.hid (by rw [← hW7]; exact Blk.set12 HQ5.out)
    have HR5 : Hid (CBox w5 w.heap.size) := Lib.hid (Blk.below (Blk.below HR3.out hb4) hb5)
    have HR7 : Hid (CBox W7 w.heap.size) := Lib.hid (Blk.moved HR5.out hm12 (by have := HG.out; omega))
    have HB5 : Hid (Below w.heap.size w w5) := Lib.hid (below_thn (below_thn HB3.out hb4) hb5)
    have HB7 : Hid (Below w.heap.size w W7) := Lib.hid (below_over HB5.out hm12 (Nat.le_of_lt HG.out) (Nat.le_refl _))
    have HC7 : Hid (OwnC W7 w.heap.size (c.val (.slice pa c.ps.length pc) (.slice ca c.ch.length cc) (.slice ta c.told.length tc)) c) := Lib.hid ((OwnC.movedR (v := c.val (.slice pa c.ps.length pc) (.slice ca c.ch.length cc) (.slice ta c.told.length tc)) ⟨_, _, _, xs, rfl, ho1, ho2, ho3, htr⟩ HQ5.out hm12).mono (below_thn HB3.out hb4).size)
    clear hW7 s0 s1 s2 s3 s4 s5 s6 s7 s8 s9 s10 s11 t0 t1 t2 t3 t4 t5 t6 t7 t8 t9 t10 t11 ho1 ho2 ho3 htr hm12 hb4 hb5
    obtain ⟨r0, r1, r2, r3, r4, r5, r6, r7, r8, r9, r10, r11⟩ := CBox.cells HR7.out; obtain ⟨g0, g1, g2, g3, g4, g5, g6, g7, g8, g9, g10, g11⟩ := CBox.free HR7.out
    clear HQ7 HC7 HR5 HB5 HQ5 HQ3 HR3 HB3 HPS HV HC1 HPl HK
    go_wp2
    refine bodyPost_ret (by simp [results, Tryz.results17, go_sem, r0, r1, r2, r3, r4, r5, r6, r7, r8, r9, r10, r11]; try rfl) rfl ?_
    exact ParseE.no HX.out (below_over HB7.out ((((((((((((Moved.set w.heap.size 0 _ _).trans (Moved.set w.heap.size 1 _ _)).trans (Moved.set w.heap.size 2 _ _)).trans (Moved.set w.heap.size 3 _ _)).trans (Moved.set w.heap.size 4 _ _)).trans (Moved.set w.heap.size 5 _ _)).trans (Moved.set w.heap.size 6 _ _)).trans (Moved.set w.heap.size 7 _ _)).trans (Moved.set w.heap.size 8 _ _)).trans (Moved.set w.heap.size 9 _ _)).trans (Moved.set w.heap.size 10 _ _)).trans (Moved.set w.heap.size 11 _ _)) (Nat.le_refl _) (Nat.le_refl _))
  | some d =>
    have HX : Hid (parseS l = .ok d) := Lib.hid (by rw [HPS.out, hk])
    have HK0 := Lib.hid hk
    clear hk
    go_enter Tryz.func17, Tryz.ntmps17
    go_upto_region 3 with (first
      | (go_at_call 45; refine (HC1.out _).mono ?_; rintro e w1 ⟨rfl, hb1⟩)
      | (go_at_call 46; refine (HPl.out _).mono ?_; rintro e w2 ⟨rfl, hb2⟩))
    generalize hW3 : w2.alloc (Obj.cells #[.int .i64 0, .int .i64 0, .int .i64 0, .int .i64 0, .int .i64 0, .string ⟨#[]⟩, .slice none 0 0, .int .i64 0, .bool false, .slice none 0 0, .int .i64 0, .slice none 0 0] 47) = W3
    have HR2 : Hid (CBox w2 w.heap.size) := Lib.hid (Blk.below (Blk.below HR0.out hb1) hb2)
    have HG : Hid (w.heap.size < w2.heap.size) := Lib.hid (Blk.lt HR2.out)
    have HQ3 : Hid (CBox W3 w2.heap.size) := Lib.hid (by rw [← hW3]; exact Blk.new _ _ _)
    have HR3 : Hid (CBox W3 w.heap.size) := Lib.hid (by rw [← hW3]; exact Blk.alloc HR2.out _)
    have HB3 : Hid (Below w.heap.size w W3) := Lib.hid (by rw [← hW3]; exact below_thn (below_thn (below_thn HB0.out hb1) hb2) (below_alloc _ _))
    generalize w2.heap.size = g at HG HQ3 ⊢
    clear hW3 hb1 hb2 HR2 hW0 HR0 HB0
    go_upto_region 17 with (first
      | (go_at_call 47; refine (HK.out _).mono ?_; rintro e w4 ⟨rfl, hb4⟩)
      | (go_at_call 50; refine (HV.out _).mono ?_; rintro e w5 ⟨v, c, hev, hown, hb5, hcd⟩; have HCD := Lib.hid (hcd d HK0.out); clear hcd; rw [HK0.out] at hev; simp only [Option.isSome_some] at hev; subst hev; obtain ⟨pv, cv, tv, xs, hve, ho1, ho2, ho3, htr⟩ := hown; obtain ⟨pa, pc, hpv, -, -, -⟩ := own_form ho1; obtain ⟨ca, cc, hcv, -, -, -⟩ := own_form ho2; obtain ⟨ta, tc, htv, -, -, -⟩ := own_form ho3; subst hpv hcv htv; unfold C.val cmdV at hve; subst hve; have HQ5 : Hid (CBox w5 g) := Lib.hid (Blk.below (Blk.below HQ3.out hb4) hb5); obtain ⟨s0, s1, s2, s3, s4, s5, s6, s7, s8, s9, s10, s11⟩ := CBox.cells HQ5.out; obtain ⟨t0, t1, t2, t3, t4, t5, t6, t7, t8, t9, t10, t11⟩ := CBox.free HQ5.out))
    generalize hW7 : ((((((((((((w5).setCell ⟨g, 0, none⟩ (.int .i64 c.k)).setCell ⟨g, 1, none⟩ (.int .i64 c.ak)).setCell ⟨g, 2, none⟩ (.int .i64 c.ek)).setCell ⟨g, 3, none⟩ (.int .i64 c.ec)).setCell ⟨g, 4, none⟩ (.int .i64 c.es)).setCell ⟨g, 5, none⟩ (.string c.sql)).setCell ⟨g, 6, none⟩ (.slice pa c.ps.length pc)).setCell ⟨g, 7, none⟩ (.int .i64 c.n)).setCell ⟨g, 8, none⟩ (.bool c.log)).setCell ⟨g, 9, none⟩ (.slice ca c.ch.length cc)).setCell ⟨g, 10, none⟩ (.int .i64 c.conn)).setCell ⟨g, 11, none⟩ (.slice ta c.told.length tc) = W7
    have hm12 : Moved g w5 W7 := by rw [← hW7]; exact ((((((((((((Moved.set g 0 _ _).trans (Moved.set g 1 _ _)).trans (Moved.set g 2 _ _)).trans (Moved.set g 3 _ _)).trans (Moved.set g 4 _ _)).trans (Moved.set g 5 _ _)).trans (Moved.set g 6 _ _)).trans (Moved.set g 7 _ _)).trans (Moved.set g 8 _ _)).trans (Moved.set g 9 _ _)).trans (Moved.set g 10 _ _)).trans (Moved.set g 11 _ _))
    have HQ7 : Hid (Blk W7 g #[.int .i64 c.k, .int .i64 c.ak, .int .i64 c.ek, .int .i64 c.ec, .int .i64 c.es, .string c.sql, .slice pa c.ps.length pc, .int .i64 c.n, .bool c.log, .slice ca c.ch.length cc, .int .i64 c.conn, .slice ta c.told.length tc] 47) := Lib.hid (by rw [← hW7]; exact Blk.set12 HQ5.out)
    have HR5 : Hid (CBox w5 w.heap.size) := Lib.hid (Blk.below (Blk.below HR3.out hb4) hb5)
    have HR7 : Hid (CBox W7 w.heap.size) := Lib.hid (Blk.moved HR5.out hm12 (by have := HG.out; omega))
    have HB5 : Hid (Below w.heap.size w w5) := Lib.hid (below_thn (below_thn HB3.out hb4) hb5)
    have HB7 : Hid (Below w.heap.size w W7) := Lib.hid (below_over HB5.out hm12 (Nat.le_of_lt HG.out) (Nat.le_refl _))
    have HC7 : Hid (OwnC W7 w.heap.size (c.val (.slice pa c.ps.length pc) (.slice ca c.ch.length cc) (.slice ta c.told.length tc)) c) := Lib.hid ((OwnC.movedR (v := c.val (.slice pa c.ps.length pc) (.slice ca c.ch.length cc) (.slice ta c.told.length tc)) ⟨_, _, _, xs, rfl, ho1, ho2, ho3, htr⟩ HQ5.out hm12).mono (below_thn HB3.out hb4).size)
    clear hW7 s0 s1 s2 s3 s4 s5 s6 s7 s8 s9 s10 s11 t0 t1 t2 t3 t4 t5 t6 t7 t8 t9 t10 t11 ho1 ho2 ho3 htr hm12 hb4 hb5
    obtain ⟨r0, r1, r2, r3, r4, r5, r6, r7, r8, r9, r10, r11⟩ := CBox.cells HR7.out; obtain ⟨g0, g1, g2, g3, g4, g5, g6, g7, g8, g9, g10, g11⟩ := CBox.free HR7.out
    obtain ⟨u0, u1, u2, u3, u4, u5, u6, u7, u8, u9, u10, u11⟩ := Blk.c12 HQ7.out
    clear HQ7 HR5 HB5 HQ5 HQ3 HR3 HB3 HPS HV HC1 HPl HK
    go_wp2
    refine bodyPost_ret (by simp [results, Tryz.results17, go_sem, r0, r1, r2, r3, r4, r5, r6, r7, r8, r9, r10, r11]; try rfl) rfl ?_
    exact ParseE.yes (c := c) (by rw [HX.out, HCD.out]) (HC7.out.movedR HR7.out ((((((((((((Moved.set w.heap.size 0 _ _).trans (Moved.set w.heap.size 1 _ _)).trans (Moved.set w.heap.size 2 _ _)).trans (Moved.set w.heap.size 3 _ _)).trans (Moved.set w.heap.size 4 _ _)).trans (Moved.set w.heap.size 5 _ _)).trans (Moved.set w.heap.size 6 _ _)).trans (Moved.set w.heap.size 7 _ _)).trans (Moved.set w.heap.size 8 _ _)).trans (Moved.set w.heap.size 9 _ _)).trans (Moved.set w.heap.size 10 _ _)).trans (Moved.set w.heap.size 11 _ _))) (below_over HB7.out ((((((((((((Moved.set w.heap.size 0 _ _).trans (Moved.set w.heap.size 1 _ _)).trans (Moved.set w.heap.size 2 _ _)).trans (Moved.set w.heap.size 3 _ _)).trans (Moved.set w.heap.size 4 _ _)).trans (Moved.set w.heap.size 5 _ _)).trans (Moved.set w.heap.size 6 _ _)).trans (Moved.set w.heap.size 7 _ _)).trans (Moved.set w.heap.size 8 _ _)).trans (Moved.set w.heap.size 9 _ _)).trans (Moved.set w.heap.size 10 _ _)).trans (Moved.set w.heap.size 11 _ _)) (Nat.le_refl _) (Nat.le_refl _))

end Go.Proofs.YtkkildkleleppaaGreatDoor
namespace Go.Proofs.YtkkildkleleppaaGreatDoor
open Go.RowKit

theorem rcounted_rce (ak : Int) (q : List UInt8) (b : Bool) (hq : q.length ≤ 100000000) (w : World) : Calls Tryz.prog 49 #[.int .i64 ak, .string ⟨q.toArray⟩, .bool b] w (RcE w (countR ak (q, b))) := by
  refine (rcounted_any ak ⟨q.toArray⟩ b (by rw [size_arr]; exact hq) w).mono ?_
  rintro e w' ⟨rfl, hb⟩
  rw [toList_arr]
  refine ⟨_, C.act ak ((numO q).getD 0) false [], ?_, ⟨_, _, _, [], rfl, World.ownsRow_nil _ _ _ _, World.ownsRow_nil _ _ _ _, World.ownsRow_nil _ _ _ _, TRow.nil_ _ _ _⟩, hb, ?_⟩
  · rw [count_okO]
    cases b <;> cases numO q <;> rfl
  · intro d hd
    rw [count_okO] at hd
    cases b with
    | false => cases hd
    | true =>
      cases hn : numO q with
      | none => rw [hn] at hd; cases hd
      | some n => rw [hn] at hd; cases hd; rfl
set_option maxRecDepth 100000 in
set_option maxHeartbeats 4000000 in
theorem rparse_crashin (l : List UInt8) (hl : l.length ≤ 100000000) (h : verbNo (cutX true false l).1 = some 11) (w : World) : Calls Tryz.prog 17 #[.string ⟨l.toArray⟩] w (ParseE w (parseS l)) := by
  obtain ⟨wd, q, b, h1⟩ : ∃ x r b, cutX true false l = (x, r, b) := ⟨_, _, _, rfl⟩
  have hx := cutX_len true false l
  rw [h1] at hx
  simp only at hx
  have HC1 := Lib.hid (rcut_at true l wd q b hl h1)
  have HQl : Hid (q.length ≤ l.length) := Lib.hid hx.2
  rw [h1] at h
  simp only at h
  obtain ⟨-, hw⟩ := verbNo_some h
  subst hw
  obtain ⟨o, ho⟩ : ∃ o, countR 2 (q, b) = o := ⟨_, rfl⟩
  have HPS := Lib.hid (parse_words (l := l) h1 (o := o) h (by rw [← ho]; rfl))
  have HPl := Lib.hid (fun w' => rplain_none (verbW 11) (fun j hj e => by have := verbW_inj (by omega) (by omega) e; omega) w')
  have HK := Lib.hid (fun w' => rkind_none (verbW 11) (fun j hj e => by have := verbW_inj (by omega) (by omega) e; omega) w')
  have hV := fun w' => rcounted_rce 2 q b (by omega) w'
  rw [ho] at hV
  have HV := Lib.hid hV
  clear hV ho h hx h1
  simp only [verbW] at HC1 HPl HK
  obtain ⟨W0, hW0⟩ : ∃ W0, w.alloc (.cells #[.int .i64 0, .int .i64 0, .int .i64 0, .int .i64 0, .int .i64 0, .string ⟨#[]⟩, .slice none 0 0, .int .i64 0, .bool false, .slice none 0 0, .int .i64 0, .slice none 0 0] 47) = W0 := ⟨_, rfl⟩
  have HB0 : Hid (Below w.heap.size w W0) := Lib.hid (by rw [← hW0]; exact below_alloc _ _)
  have HR0 : Hid (CBox W0 w.heap.size) := Lib.hid (by rw [← hW0]; exact Blk.new _ _ _)
  cases hk : okO o with
  | none =>
    have HX : Hid (parseS l = .error 421) := Lib.hid (by rw [HPS.out, hk])
    have HK0 := Lib.hid hk
    clear hk
    go_enter Tryz.func17, Tryz.ntmps17
    go_upto_region 3 with (first
      | (go_at_call 45; refine (HC1.out _).mono ?_; rintro e w1 ⟨rfl, hb1⟩)
      | (go_at_call 46; refine (HPl.out _).mono ?_; rintro e w2 ⟨rfl, hb2⟩))
    generalize hW3 : w2.alloc (Obj.cells #[.int .i64 0, .int .i64 0, .int .i64 0, .int .i64 0, .int .i64 0, .string ⟨#[]⟩, .slice none 0 0, .int .i64 0, .bool false, .slice none 0 0, .int .i64 0, .slice none 0 0] 47) = W3
    have HR2 : Hid (CBox w2 w.heap.size) := Lib.hid (Blk.below (Blk.below HR0.out hb1) hb2)
    have HG : Hid (w.heap.size < w2.heap.size) := Lib.hid (Blk.lt HR2.out)
    have HQ3 : Hid (CBox W3 w2.heap.size) := Lib.hid (by rw [← hW3]; exact Blk.new _ _ _)
    have HR3 : Hid (CBox W3 w.heap.size) := Lib.hid (by rw [← hW3]; exact Blk.alloc HR2.out _)
    have HB3 : Hid (Below w.heap.size w W3) := Lib.hid (by rw [← hW3]; exact below_thn (below_thn (below_thn HB0.out hb1) hb2) (below_alloc _ _))
    generalize w2.heap.size = g at HG HQ3 ⊢
    clear hW3 hb1 hb2 HR2 hW0 HR0 HB0
    go_upto_region 17 with (first
      | (go_at_call 47; refine (HK.out _).mono ?_; rintro e w4 ⟨rfl, hb4⟩)
      | (go_at_call 49; refine (HV.out _).mono ?_; rintro e w5 ⟨v, c, hev, hown, hb5, -⟩; rw [HK0.out] at hev; simp only [Option.isSome_none] at hev; subst hev; obtain ⟨pv, cv, tv, xs, hve, ho1, ho2, ho3, htr⟩ := hown; obtain ⟨pa, pc, hpv, -, -, -⟩ := own_form ho1; obtain ⟨ca, cc, hcv, -, -, -⟩ := own_form ho2; obtain ⟨ta, tc, htv, -, -, -⟩ := own_form ho3; subst hpv hcv htv; unfold C.val cmdV at hve; subst hve; have HQ5 : Hid (CBox w5 g) := Lib.hid (Blk.below (Blk.below HQ3.out hb4) hb5); obtain ⟨s0, s1, s2, s3, s4, s5, s6, s7, s8, s9, s10, s11⟩ := CBox.cells HQ5.out; obtain ⟨t0, t1, t2, t3, t4, t5, t6, t7, t8, t9, t10, t11⟩ := CBox.free HQ5.out))
    generalize hW7 : ((((((((((((w5).setCell ⟨g, 0, none⟩ (.int .i64 c.k)).setCell ⟨g, 1, none⟩ (.int .i64 c.ak)).setCell ⟨g, 2, none⟩ (.int .i64 c.ek)).setCell ⟨g, 3, none⟩ (.int .i64 c.ec)).setCell ⟨g, 4, none⟩ (.int .i64 c.es)).setCell ⟨g, 5, none⟩ (.string c.sql)).setCell ⟨g, 6, none⟩ (.slice pa c.ps.length pc)).setCell ⟨g, 7, none⟩ (.int .i64 c.n)).setCell ⟨g, 8, none⟩ (.bool c.log)).setCell ⟨g, 9, none⟩ (.slice ca c.ch.length cc)).setCell ⟨g, 10, none⟩ (.int .i64 c.conn)).setCell ⟨g, 11, none⟩ (.slice ta c.told.length tc) = W7
    have hm12 : Moved g w5 W7 := by rw [← hW7]; exact ((((((((((((Moved.set g 0 _ _).trans (Moved.set g 1 _ _)).trans (Moved.set g 2 _ _)).trans (Moved.set g 3 _ _)).trans (Moved.set g 4 _ _)).trans (Moved.set g 5 _ _)).trans (Moved.set g 6 _ _)).trans (Moved.set g 7 _ _)).trans (Moved.set g 8 _ _)).trans (Moved.set g 9 _ _)).trans (Moved.set g 10 _ _)).trans (Moved.set g 11 _ _))
    have HQ7 : Hid (Blk W7 g #[.int .i64 c.k, .int .i64 c.ak, .int .i64 c.ek, .int .i64 c.ec, .int .i64 c.es, .string c.sql, .slice pa c.ps.length pc, .int .i64 c.n, .bool c.log, .slice ca c.ch.length cc, .int .i64 c.conn, .slice ta c.told.length tc] 47) := Lib.hid (by rw [← hW7]; exact Blk.set12 HQ5.out)
    have HR5 : Hid (CBox w5 w.heap.size) := Lib.hid (Blk.below (Blk.below HR3.out hb4) hb5)
    have HR7 : Hid (CBox W7 w.heap.size) := Lib.hid (Blk.moved HR5.out hm12 (by have := HG.out; omega))
    have HB5 : Hid (Below w.heap.size w w5) := Lib.hid (below_thn (below_thn HB3.out hb4) hb5)
    have HB7 : Hid (Below w.heap.size w W7) := Lib.hid (below_over HB5.out hm12 (Nat.le_of_lt HG.out) (Nat.le_refl _))
    have HC7 : Hid (OwnC W7 w.heap.size (c.val (.slice pa c.ps.length pc) (.slice ca c.ch.length cc) (.slice ta c.told.length tc)) c) := Lib.hid ((OwnC.movedR (v := c.val (.slice pa c.ps.length pc) (.slice ca c.ch.length cc) (.slice ta c.told.length tc)) ⟨_, _, _, xs, rfl, ho1, ho2, ho3, htr⟩ HQ5.out hm12).mono (below_thn HB3.out hb4).size)
    clear hW7 s0 s1 s2 s3 s4 s5 s6 s7 s8 s9 s10 s11 t0 t1 t2 t3 t4 t5 t6 t7 t8 t9 t10 t11 ho1 ho2 ho3 htr hm12 hb4 hb5
    obtain ⟨r0, r1, r2, r3, r4, r5, r6, r7, r8, r9, r10, r11⟩ := CBox.cells HR7.out; obtain ⟨g0, g1, g2, g3, g4, g5, g6, g7, g8, g9, g10, g11⟩ := CBox.free HR7.out
    clear HQ7 HC7 HR5 HB5 HQ5 HQ3 HR3 HB3 HPS HV HC1 HPl HK
    go_wp2
    refine bodyPost_ret (by simp [results, Tryz.results17, go_sem, r0, r1, r2, r3, r4, r5, r6, r7, r8, r9, r10, r11]; try rfl) rfl ?_
    exact ParseE.no HX.out (below_over HB7.out ((((((((((((Moved.set w.heap.size 0 _ _).trans (Moved.set w.heap.size 1 _ _)).trans (Moved.set w.heap.size 2 _ _)).trans (Moved.set w.heap.size 3 _ _)).trans (Moved.set w.heap.size 4 _ _)).trans (Moved.set w.heap.size 5 _ _)).trans (Moved.set w.heap.size 6 _ _)).trans (Moved.set w.heap.size 7 _ _)).trans (Moved.set w.heap.size 8 _ _)).trans (Moved.set w.heap.size 9 _ _)).trans (Moved.set w.heap.size 10 _ _)).trans (Moved.set w.heap.size 11 _ _)) (Nat.le_refl _) (Nat.le_refl _))
  | some d =>
    have HX : Hid (parseS l = .ok d) := Lib.hid (by rw [HPS.out, hk])
    have HK0 := Lib.hid hk
    clear hk
    go_enter Tryz.func17, Tryz.ntmps17
    go_upto_region 3 with (first
      | (go_at_call 45; refine (HC1.out _).mono ?_; rintro e w1 ⟨rfl, hb1⟩)
      | (go_at_call 46; refine (HPl.out _).mono ?_; rintro e w2 ⟨rfl, hb2⟩))
    generalize hW3 : w2.alloc (Obj.cells #[.int .i64 0, .int .i64 0, .int .i64 0, .int .i64 0, .int .i64 0, .string ⟨#[]⟩, .slice none 0 0, .int .i64 0, .bool false, .slice none 0 0, .int .i64 0, .slice none 0 0] 47) = W3
    have HR2 : Hid (CBox w2 w.heap.size) := Lib.hid (Blk.below (Blk.below HR0.out hb1) hb2)
    have HG : Hid (w.heap.size < w2.heap.size) := Lib.hid (Blk.lt HR2.out)
    have HQ3 : Hid (CBox W3 w2.heap.size) := Lib.hid (by rw [← hW3]; exact Blk.new _ _ _)
    have HR3 : Hid (CBox W3 w.heap.size) := Lib.hid (by rw [← hW3]; exact Blk.alloc HR2.out _)
    have HB3 : Hid (Below w.heap.size w W3) := Lib.hid (by rw [← hW3]; exact below_thn (below_thn (below_thn HB0.out hb1) hb2) (below_alloc _ _))
    generalize w2.heap.size = g at HG HQ3 ⊢
    clear hW3 hb1 hb2 HR2 hW0 HR0 HB0
    go_upto_region 17 with (first
      | (go_at_call 47; refine (HK.out _).mono ?_; rintro e w4 ⟨rfl, hb4⟩)
      | (go_at_call 49; refine (HV.out _).mono ?_; rintro e w5 ⟨v, c, hev, hown, hb5, hcd⟩; have HCD := Lib.hid (hcd d HK0.out); clear hcd; rw [HK0.out] at hev; simp only [Option.isSome_some] at hev; subst hev; obtain ⟨pv, cv, tv, xs, hve, ho1, ho2, ho3, htr⟩ := hown; obtain ⟨pa, pc, hpv, -, -, -⟩ := own_form ho1; obtain ⟨ca, cc, hcv, -, -, -⟩ := own_form ho2; obtain ⟨ta, tc, htv, -, -, -⟩ := own_form ho3; subst hpv hcv htv; unfold C.val cmdV at hve; subst hve; have HQ5 : Hid (CBox w5 g) := Lib.hid (Blk.below (Blk.below HQ3.out hb4) hb5); obtain ⟨s0, s1, s2, s3, s4, s5, s6, s7, s8, s9, s10, s11⟩ := CBox.cells HQ5.out; obtain ⟨t0, t1, t2, t3, t4, t5, t6, t7, t8, t9, t10, t11⟩ := CBox.free HQ5.out))
    generalize hW7 : ((((((((((((w5).setCell ⟨g, 0, none⟩ (.int .i64 c.k)).setCell ⟨g, 1, none⟩ (.int .i64 c.ak)).setCell ⟨g, 2, none⟩ (.int .i64 c.ek)).setCell ⟨g, 3, none⟩ (.int .i64 c.ec)).setCell ⟨g, 4, none⟩ (.int .i64 c.es)).setCell ⟨g, 5, none⟩ (.string c.sql)).setCell ⟨g, 6, none⟩ (.slice pa c.ps.length pc)).setCell ⟨g, 7, none⟩ (.int .i64 c.n)).setCell ⟨g, 8, none⟩ (.bool c.log)).setCell ⟨g, 9, none⟩ (.slice ca c.ch.length cc)).setCell ⟨g, 10, none⟩ (.int .i64 c.conn)).setCell ⟨g, 11, none⟩ (.slice ta c.told.length tc) = W7
    have hm12 : Moved g w5 W7 := by rw [← hW7]; exact ((((((((((((Moved.set g 0 _ _).trans (Moved.set g 1 _ _)).trans (Moved.set g 2 _ _)).trans (Moved.set g 3 _ _)).trans (Moved.set g 4 _ _)).trans (Moved.set g 5 _ _)).trans (Moved.set g 6 _ _)).trans (Moved.set g 7 _ _)).trans (Moved.set g 8 _ _)).trans (Moved.set g 9 _ _)).trans (Moved.set g 10 _ _)).trans (Moved.set g 11 _ _))
    have HQ7 : Hid (Blk W7 g #[.int .i64 c.k, .int .i64 c.ak, .int .i64 c.ek, .int .i64 c.ec, .int .i64 c.es, .string c.sql, .slice pa c.ps.length pc, .int .i64 c.n, .bool c.log, .slice ca c.ch.length cc, .int .i64 c.conn, .slice ta c.told.length tc] 47) := Lib.hid (by rw [← hW7]; exact Blk.set12 HQ5.out)
    have HR5 : Hid (CBox w5 w.heap.size) := Lib.hid (Blk.below (Blk.below HR3.out hb4) hb5)
    have HR7 : Hid (CBox W7 w.heap.size) := Lib.hid (Blk.moved HR5.out hm12 (by have := HG.out; omega))
    have HB5 : Hid (Below w.heap.size w w5) := Lib.hid (below_thn (below_thn HB3.out hb4) hb5)
    have HB7 : Hid (Below w.heap.size w W7) := Lib.hid (below_over HB5.out hm12 (Nat.le_of_lt HG.out) (Nat.le_refl _))
    have HC7 : Hid (OwnC W7 w.heap.size (c.val (.slice pa c.ps.length pc) (.slice ca c.ch.length cc) (.slice ta c.told.length tc)) c) := Lib.hid ((OwnC.movedR (v := c.val (.slice pa c.ps.length pc) (.slice ca c.ch.length cc) (.slice ta c.told.length tc)) ⟨_, _, _, xs, rfl, ho1, ho2, ho3, htr⟩ HQ5.out hm12).mono (below_thn HB3.out hb4).size)
    clear hW7 s0 s1 s2 s3 s4 s5 s6 s7 s8 s9 s10 s11 t0 t1 t2 t3 t4 t5 t6 t7 t8 t9 t10 t11 ho1 ho2 ho3 htr hm12 hb4 hb5
    obtain ⟨r0, r1, r2, r3, r4, r5, r6, r7, r8, r9, r10, r11⟩ := CBox.cells HR7.out; obtain ⟨g0, g1, g2, g3, g4, g5, g6, g7, g8, g9, g10, g11⟩ := CBox.free HR7.out
    obtain ⟨u0, u1, u2, u3, u4, u5, u6, u7, u8, u9, u10, u11⟩ := Blk.c12 HQ7.out
    clear HQ7 HR5 HB5 HQ5 HQ3 HR3 HB3 HPS HV HC1 HPl HK
    go_wp2
    refine bodyPost_ret (by simp [results, Tryz.results17, go_sem, r0, r1, r2, r3, r4, r5, r6, r7, r8, r9, r10, r11]; try rfl) rfl ?_
    exact ParseE.yes (c := c) (by rw [HX.out, HCD.out]) (HC7.out.movedR HR7.out ((((((((((((Moved.set w.heap.size 0 _ _).trans (Moved.set w.heap.size 1 _ _)).trans (Moved.set w.heap.size 2 _ _)).trans (Moved.set w.heap.size 3 _ _)).trans (Moved.set w.heap.size 4 _ _)).trans (Moved.set w.heap.size 5 _ _)).trans (Moved.set w.heap.size 6 _ _)).trans (Moved.set w.heap.size 7 _ _)).trans (Moved.set w.heap.size 8 _ _)).trans (Moved.set w.heap.size 9 _ _)).trans (Moved.set w.heap.size 10 _ _)).trans (Moved.set w.heap.size 11 _ _))) (below_over HB7.out ((((((((((((Moved.set w.heap.size 0 _ _).trans (Moved.set w.heap.size 1 _ _)).trans (Moved.set w.heap.size 2 _ _)).trans (Moved.set w.heap.size 3 _ _)).trans (Moved.set w.heap.size 4 _ _)).trans (Moved.set w.heap.size 5 _ _)).trans (Moved.set w.heap.size 6 _ _)).trans (Moved.set w.heap.size 7 _ _)).trans (Moved.set w.heap.size 8 _ _)).trans (Moved.set w.heap.size 9 _ _)).trans (Moved.set w.heap.size 10 _ _)).trans (Moved.set w.heap.size 11 _ _)) (Nat.le_refl _) (Nat.le_refl _))
set_option maxRecDepth 100000 in
set_option maxHeartbeats 4000000 in
theorem rparse_room (l : List UInt8) (hl : l.length ≤ 100000000) (h : verbNo (cutX true false l).1 = some 12) (w : World) : Calls Tryz.prog 17 #[.string ⟨l.toArray⟩] w (ParseE w (parseS l)) := by
  obtain ⟨wd, q, b, h1⟩ : ∃ x r b, cutX true false l = (x, r, b) := ⟨_, _, _, rfl⟩
  have hx := cutX_len true false l
  rw [h1] at hx
  simp only at hx
  have HC1 := Lib.hid (rcut_at true l wd q b hl h1)
  have HQl : Hid (q.length ≤ l.length) := Lib.hid hx.2
  rw [h1] at h
  simp only at h
  obtain ⟨-, hw⟩ := verbNo_some h
  subst hw
  obtain ⟨o, ho⟩ : ∃ o, countR 4 (q, b) = o := ⟨_, rfl⟩
  have HPS := Lib.hid (parse_words (l := l) h1 (o := o) h (by rw [← ho]; rfl))
  have HPl := Lib.hid (fun w' => rplain_none (verbW 12) (fun j hj e => by have := verbW_inj (by omega) (by omega) e; omega) w')
  have HK := Lib.hid (fun w' => rkind_none (verbW 12) (fun j hj e => by have := verbW_inj (by omega) (by omega) e; omega) w')
  have hV := fun w' => rcounted_rce 4 q b (by omega) w'
  rw [ho] at hV
  have HV := Lib.hid hV
  clear hV ho h hx h1
  simp only [verbW] at HC1 HPl HK
  obtain ⟨W0, hW0⟩ : ∃ W0, w.alloc (.cells #[.int .i64 0, .int .i64 0, .int .i64 0, .int .i64 0, .int .i64 0, .string ⟨#[]⟩, .slice none 0 0, .int .i64 0, .bool false, .slice none 0 0, .int .i64 0, .slice none 0 0] 47) = W0 := ⟨_, rfl⟩
  have HB0 : Hid (Below w.heap.size w W0) := Lib.hid (by rw [← hW0]; exact below_alloc _ _)
  have HR0 : Hid (CBox W0 w.heap.size) := Lib.hid (by rw [← hW0]; exact Blk.new _ _ _)
  cases hk : okO o with
  | none =>
    have HX : Hid (parseS l = .error 421) := Lib.hid (by rw [HPS.out, hk])
    have HK0 := Lib.hid hk
    clear hk
    go_enter Tryz.func17, Tryz.ntmps17
    go_upto_region 3 with (first
      | (go_at_call 45; refine (HC1.out _).mono ?_; rintro e w1 ⟨rfl, hb1⟩)
      | (go_at_call 46; refine (HPl.out _).mono ?_; rintro e w2 ⟨rfl, hb2⟩))
    generalize hW3 : w2.alloc (Obj.cells #[.int .i64 0, .int .i64 0, .int .i64 0, .int .i64 0, .int .i64 0, .string ⟨#[]⟩, .slice none 0 0, .int .i64 0, .bool false, .slice none 0 0, .int .i64 0, .slice none 0 0] 47) = W3
    have HR2 : Hid (CBox w2 w.heap.size) := Lib.hid (Blk.below (Blk.below HR0.out hb1) hb2)
    have HG : Hid (w.heap.size < w2.heap.size) := Lib.hid (Blk.lt HR2.out)
    have HQ3 : Hid (CBox W3 w2.heap.size) := Lib.hid (by rw [← hW3]; exact Blk.new _ _ _)
    have HR3 : Hid (CBox W3 w.heap.size) := Lib.hid (by rw [← hW3]; exact Blk.alloc HR2.out _)
    have HB3 : Hid (Below w.heap.size w W3) := Lib.hid (by rw [← hW3]; exact below_thn (below_thn (below_thn HB0.out hb1) hb2) (below_alloc _ _))
    generalize w2.heap.size = g at HG HQ3 ⊢
    clear hW3 hb1 hb2 HR2 hW0 HR0 HB0
    go_upto_region 17 with (first
      | (go_at_call 47; refine (HK.out _).mono ?_; rintro e w4 ⟨rfl, hb4⟩)
      | (go_at_call 49; refine (HV.out _).mono ?_; rintro e w5 ⟨v, c, hev, hown, hb5, -⟩; rw [HK0.out] at hev; simp only [Option.isSome_none] at hev; subst hev; obtain ⟨pv, cv, tv, xs, hve, ho1, ho2, ho3, htr⟩ := hown; obtain ⟨pa, pc, hpv, -, -, -⟩ := own_form ho1; obtain ⟨ca, cc, hcv, -, -, -⟩ := own_form ho2; obtain ⟨ta, tc, htv, -, -, -⟩ := own_form ho3; subst hpv hcv htv; unfold C.val cmdV at hve; subst hve; have HQ5 : Hid (CBox w5 g) := Lib.hid (Blk.below (Blk.below HQ3.out hb4) hb5); obtain ⟨s0, s1, s2, s3, s4, s5, s6, s7, s8, s9, s10, s11⟩ := CBox.cells HQ5.out; obtain ⟨t0, t1, t2, t3, t4, t5, t6, t7, t8, t9, t10, t11⟩ := CBox.free HQ5.out))
    generalize hW7 : ((((((((((((w5).setCell ⟨g, 0, none⟩ (.int .i64 c.k)).setCell ⟨g, 1, none⟩ (.int .i64 c.ak)).setCell ⟨g, 2, none⟩ (.int .i64 c.ek)).setCell ⟨g, 3, none⟩ (.int .i64 c.ec)).setCell ⟨g, 4, none⟩ (.int .i64 c.es)).setCell ⟨g, 5, none⟩ (.string c.sql)).setCell ⟨g, 6, none⟩ (.slice pa c.ps.length pc)).setCell ⟨g, 7, none⟩ (.int .i64 c.n)).setCell ⟨g, 8, none⟩ (.bool c.log)).setCell ⟨g, 9, none⟩ (.slice ca c.ch.length cc)).setCell ⟨g, 10, none⟩ (.int .i64 c.conn)).setCell ⟨g, 11, none⟩ (.slice ta c.told.length tc) = W7
    have hm12 : Moved g w5 W7 := by rw [← hW7]; exact ((((((((((((Moved.set g 0 _ _).trans (Moved.set g 1 _ _)).trans (Moved.set g 2 _ _)).trans (Moved.set g 3 _ _)).trans (Moved.set g 4 _ _)).trans (Moved.set g 5 _ _)).trans (Moved.set g 6 _ _)).trans (Moved.set g 7 _ _)).trans (Moved.set g 8 _ _)).trans (Moved.set g 9 _ _)).trans (Moved.set g 10 _ _)).trans (Moved.set g 11 _ _))
    have HQ7 : Hid (Blk W7 g #[.int .i64 c.k, .int .i64 c.ak, .int .i64 c.ek, .int .i64 c.ec, .int .i64 c.es, .string c.sql, .slice pa c.ps.length pc, .int .i64 c.n, .bool c.log, .slice ca c.ch.length cc, .int .i64 c.conn, .slice ta c.told.length tc] 47) := Lib.hid (by rw [← hW7]; exact Blk.set12 HQ5.out)
    have HR5 : Hid (CBox w5 w.heap.size) := Lib.hid (Blk.below (Blk.below HR3.out hb4) hb5)
    have HR7 : Hid (CBox W7 w.heap.size) := Lib.hid (Blk.moved HR5.out hm12 (by have := HG.out; omega))
    have HB5 : Hid (Below w.heap.size w w5) := Lib.hid (below_thn (below_thn HB3.out hb4) hb5)
    have HB7 : Hid (Below w.heap.size w W7) := Lib.hid (below_over HB5.out hm12 (Nat.le_of_lt HG.out) (Nat.le_refl _))
    have HC7 : Hid (OwnC W7 w.heap.size (c.val (.slice pa c.ps.length pc) (.slice ca c.ch.length cc) (.slice ta c.told.length tc)) c) := Lib.hid ((OwnC.movedR (v := c.val (.slice pa c.ps.length pc) (.slice ca c.ch.length cc) (.slice ta c.told.length tc)) ⟨_, _, _, xs, rfl, ho1, ho2, ho3, htr⟩ HQ5.out hm12).mono (below_thn HB3.out hb4).size)
    clear hW7 s0 s1 s2 s3 s4 s5 s6 s7 s8 s9 s10 s11 t0 t1 t2 t3 t4 t5 t6 t7 t8 t9 t10 t11 ho1 ho2 ho3 htr hm12 hb4 hb5
    obtain ⟨r0, r1, r2, r3, r4, r5, r6, r7, r8, r9, r10, r11⟩ := CBox.cells HR7.out; obtain ⟨g0, g1, g2, g3, g4, g5, g6, g7, g8, g9, g10, g11⟩ := CBox.free HR7.out
    clear HQ7 HC7 HR5 HB5 HQ5 HQ3 HR3 HB3 HPS HV HC1 HPl HK
    go_wp2
    refine bodyPost_ret (by simp [results, Tryz.results17, go_sem, r0, r1, r2, r3, r4, r5, r6, r7, r8, r9, r10, r11]; try rfl) rfl ?_
    exact ParseE.no HX.out (below_over HB7.out ((((((((((((Moved.set w.heap.size 0 _ _).trans (Moved.set w.heap.size 1 _ _)).trans (Moved.set w.heap.size 2 _ _)).trans (Moved.set w.heap.size 3 _ _)).trans (Moved.set w.heap.size 4 _ _)).trans (Moved.set w.heap.size 5 _ _)).trans (Moved.set w.heap.size 6 _ _)).trans (Moved.set w.heap.size 7 _ _)).trans (Moved.set w.heap.size 8 _ _)).trans (Moved.set w.heap.size 9 _ _)).trans (Moved.set w.heap.size 10 _ _)).trans (Moved.set w.heap.size 11 _ _)) (Nat.le_refl _) (Nat.le_refl _))
  | some d =>
    have HX : Hid (parseS l = .ok d) := Lib.hid (by rw [HPS.out, hk])
    have HK0 := Lib.hid hk
    clear hk
    go_enter Tryz.func17, Tryz.ntmps17
    go_upto_region 3 with (first
      | (go_at_call 45; refine (HC1.out _).mono ?_; rintro e w1 ⟨rfl, hb1⟩)
      | (go_at_call 46; refine (HPl.out _).mono ?_; rintro e w2 ⟨rfl, hb2⟩))
    generalize hW3 : w2.alloc (Obj.cells #[.int .i64 0, .int .i64 0, .int .i64 0, .int .i64 0, .int .i64 0, .string ⟨#[]⟩, .slice none 0 0, .int .i64 0, .bool false, .slice none 0 0, .int .i64 0, .slice none 0 0] 47) = W3
    have HR2 : Hid (CBox w2 w.heap.size) := Lib.hid (Blk.below (Blk.below HR0.out hb1) hb2)
    have HG : Hid (w.heap.size < w2.heap.size) := Lib.hid (Blk.lt HR2.out)
    have HQ3 : Hid (CBox W3 w2.heap.size) := Lib.hid (by rw [← hW3]; exact Blk.new _ _ _)
    have HR3 : Hid (CBox W3 w.heap.size) := Lib.hid (by rw [← hW3]; exact Blk.alloc HR2.out _)
    have HB3 : Hid (Below w.heap.size w W3) := Lib.hid (by rw [← hW3]; exact below_thn (below_thn (below_thn HB0.out hb1) hb2) (below_alloc _ _))
    generalize w2.heap.size = g at HG HQ3 ⊢
    clear hW3 hb1 hb2 HR2 hW0 HR0 HB0
    go_upto_region 17 with (first
      | (go_at_call 47; refine (HK.out _).mono ?_; rintro e w4 ⟨rfl, hb4⟩)
      | (go_at_call 49; refine (HV.out _).mono ?_; rintro e w5 ⟨v, c, hev, hown, hb5, hcd⟩; have HCD := Lib.hid (hcd d HK0.out); clear hcd; rw [HK0.out] at hev; simp only [Option.isSome_some] at hev; subst hev; obtain ⟨pv, cv, tv, xs, hve, ho1, ho2, ho3, htr⟩ := hown; obtain ⟨pa, pc, hpv, -, -, -⟩ := own_form ho1; obtain ⟨ca, cc, hcv, -, -, -⟩ := own_form ho2; obtain ⟨ta, tc, htv, -, -, -⟩ := own_form ho3; subst hpv hcv htv; unfold C.val cmdV at hve; subst hve; have HQ5 : Hid (CBox w5 g) := Lib.hid (Blk.below (Blk.below HQ3.out hb4) hb5); obtain ⟨s0, s1, s2, s3, s4, s5, s6, s7, s8, s9, s10, s11⟩ := CBox.cells HQ5.out; obtain ⟨t0, t1, t2, t3, t4, t5, t6, t7, t8, t9, t10, t11⟩ := CBox.free HQ5.out))
    generalize hW7 : ((((((((((((w5).setCell ⟨g, 0, none⟩ (.int .i64 c.k)).setCell ⟨g, 1, none⟩ (.int .i64 c.ak)).setCell ⟨g, 2, none⟩ (.int .i64 c.ek)).setCell ⟨g, 3, none⟩ (.int .i64 c.ec)).setCell ⟨g, 4, none⟩ (.int .i64 c.es)).setCell ⟨g, 5, none⟩ (.string c.sql)).setCell ⟨g, 6, none⟩ (.slice pa c.ps.length pc)).setCell ⟨g, 7, none⟩ (.int .i64 c.n)).setCell ⟨g, 8, none⟩ (.bool c.log)).setCell ⟨g, 9, none⟩ (.slice ca c.ch.length cc)).setCell ⟨g, 10, none⟩ (.int .i64 c.conn)).setCell ⟨g, 11, none⟩ (.slice ta c.told.length tc) = W7
    have hm12 : Moved g w5 W7 := by rw [← hW7]; exact ((((((((((((Moved.set g 0 _ _).trans (Moved.set g 1 _ _)).trans (Moved.set g 2 _ _)).trans (Moved.set g 3 _ _)).trans (Moved.set g 4 _ _)).trans (Moved.set g 5 _ _)).trans (Moved.set g 6 _ _)).trans (Moved.set g 7 _ _)).trans (Moved.set g 8 _ _)).trans (Moved.set g 9 _ _)).trans (Moved.set g 10 _ _)).trans (Moved.set g 11 _ _))
    have HQ7 : Hid (Blk W7 g #[.int .i64 c.k, .int .i64 c.ak, .int .i64 c.ek, .int .i64 c.ec, .int .i64 c.es, .string c.sql, .slice pa c.ps.length pc, .int .i64 c.n, .bool c.log, .slice ca c.ch.length cc, .int .i64 c.conn, .slice ta c.told.length tc] 47) := Lib.hid (by rw [← hW7]; exact Blk.set12 HQ5.out)
    have HR5 : Hid (CBox w5 w.heap.size) := Lib.hid (Blk.below (Blk.below HR3.out hb4) hb5)
    have HR7 : Hid (CBox W7 w.heap.size) := Lib.hid (Blk.moved HR5.out hm12 (by have := HG.out; omega))
    have HB5 : Hid (Below w.heap.size w w5) := Lib.hid (below_thn (below_thn HB3.out hb4) hb5)
    have HB7 : Hid (Below w.heap.size w W7) := Lib.hid (below_over HB5.out hm12 (Nat.le_of_lt HG.out) (Nat.le_refl _))
    have HC7 : Hid (OwnC W7 w.heap.size (c.val (.slice pa c.ps.length pc) (.slice ca c.ch.length cc) (.slice ta c.told.length tc)) c) := Lib.hid ((OwnC.movedR (v := c.val (.slice pa c.ps.length pc) (.slice ca c.ch.length cc) (.slice ta c.told.length tc)) ⟨_, _, _, xs, rfl, ho1, ho2, ho3, htr⟩ HQ5.out hm12).mono (below_thn HB3.out hb4).size)
    clear hW7 s0 s1 s2 s3 s4 s5 s6 s7 s8 s9 s10 s11 t0 t1 t2 t3 t4 t5 t6 t7 t8 t9 t10 t11 ho1 ho2 ho3 htr hm12 hb4 hb5
    obtain ⟨r0, r1, r2, r3, r4, r5, r6, r7, r8, r9, r10, r11⟩ := CBox.cells HR7.out; obtain ⟨g0, g1, g2, g3, g4, g5, g6, g7, g8, g9, g10, g11⟩ := CBox.free HR7.out
    obtain ⟨u0, u1, u2, u3, u4, u5, u6, u7, u8, u9, u10, u11⟩ := Blk.c12 HQ7.out
    clear HQ7 HR5 HB5 HQ5 HQ3 HR3 HB3 HPS HV HC1 HPl HK
    go_wp2
    refine bodyPost_ret (by simp [results, Tryz.results17, go_sem, r0, r1, r2, r3, r4, r5, r6, r7, r8, r9, r10, r11]; try rfl) rfl ?_
    exact ParseE.yes (c := c) (by rw [HX.out, HCD.out]) (HC7.out.movedR HR7.out ((((((((((((Moved.set w.heap.size 0 _ _).trans (Moved.set w.heap.size 1 _ _)).trans (Moved.set w.heap.size 2 _ _)).trans (Moved.set w.heap.size 3 _ _)).trans (Moved.set w.heap.size 4 _ _)).trans (Moved.set w.heap.size 5 _ _)).trans (Moved.set w.heap.size 6 _ _)).trans (Moved.set w.heap.size 7 _ _)).trans (Moved.set w.heap.size 8 _ _)).trans (Moved.set w.heap.size 9 _ _)).trans (Moved.set w.heap.size 10 _ _)).trans (Moved.set w.heap.size 11 _ _))) (below_over HB7.out ((((((((((((Moved.set w.heap.size 0 _ _).trans (Moved.set w.heap.size 1 _ _)).trans (Moved.set w.heap.size 2 _ _)).trans (Moved.set w.heap.size 3 _ _)).trans (Moved.set w.heap.size 4 _ _)).trans (Moved.set w.heap.size 5 _ _)).trans (Moved.set w.heap.size 6 _ _)).trans (Moved.set w.heap.size 7 _ _)).trans (Moved.set w.heap.size 8 _ _)).trans (Moved.set w.heap.size 9 _ _)).trans (Moved.set w.heap.size 10 _ _)).trans (Moved.set w.heap.size 11 _ _)) (Nat.le_refl _) (Nat.le_refl _))
end Go.Proofs.YtkkildkleleppaaGreatDoor
