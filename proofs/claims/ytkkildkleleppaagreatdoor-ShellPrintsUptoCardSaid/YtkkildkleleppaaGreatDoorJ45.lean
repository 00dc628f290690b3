/- The document's Parse: an event. The document's restart. -/
import Derived.Test.YtkkildkleleppaaGreatDoorJ44
import Derived.Test.YtkkildkleleppaaGreatDoorJ41
import Derived.Test.YtkkildkleleppaaGreatDoorJ40
import Derived.Test.YtkkildkleleppaaGreatDoorJ29
namespace Go.Proofs.YtkkildkleleppaaGreatDoor
open Go.RowKit

set_option maxRecDepth 100000 in
set_option maxHeartbeats 4000000 in
/-- An event's verb. -/
theorem rparse_event (i : Nat) (hi : i < 9) (l : List UInt8) (hl : l.length ≤ 100000000) (h : verbNo (cutX true false l).1 = some i) (w : World) : Calls Tryz.prog 17 #[.string ⟨l.toArray⟩] w (ParseE w (parseS l)) := by
  obtain ⟨wd, q, b, h1⟩ : ∃ x r b, cutX true false l = (x, r, b) := ⟨_, _, _, rfl⟩
  have hx := cutX_len true false l
  rw [h1] at hx
  simp only at hx
  have HC1 := Lib.hid (rcut_at true l wd q b hl h1)
  have HQl : Hid (q.length ≤ l.length) := Lib.hid hx.2
  rw [h1] at h
  simp only at h
  obtain ⟨-, hw⟩ := verbNo_some h
  subst hw
  obtain ⟨o, ho⟩ : ∃ o, eventR (evKind i) (evSlot i) (evTail i) (q, b) = o := ⟨_, rfl⟩
  have HPS := Lib.hid (parse_words (l := l) h1 (o := o) h (by rw [← ho]; exact verbR_ev (by omega) _))
  have HPl := Lib.hid (fun w' => rplain_none (verbW i) (fun j hj e => by have := verbW_inj (by omega) (by omega) e; omega) w')
  have HK := Lib.hid (fun w' => rkind_some i hi w')
  have hV := fun w' => revent_any i hi (q, b) (by simp only; omega) w'
  rw [ho] at hV
  simp only at hV
  have HV := Lib.hid hV
  have hk1 : ¬ evKind i = 0 := by
    have : ∀ i, i < 9 → ¬ evKind i = 0 := by decide
    exact this i hi
  have hk2 : (evKind i == 0) = false := by simp [hk1]
  have hk3 : (evKind i != 0) = true := by simp [hk1]
  clear hV ho h hx h1
  generalize evKind i = K at HK HV hk1 hk2 hk3
  generalize verbW i = wd at HC1 HPl HK HV
  obtain ⟨W0, hW0⟩ : ∃ W0, w.alloc (.cells #[.int .i64 0, .int .i64 0, .int .i64 0, .int .i64 0, .int .i64 0, .string ⟨#[]⟩, .slice none 0 0, .int .i64 0, .bool false, .slice none 0 0, .int .i64 0, .slice none 0 0] 47) = W0 := ⟨_, rfl⟩
  have HB0 : Hid (Below w.heap.size w W0) := Lib.hid (by rw [← hW0]; exact below_alloc _ _)
  have HR0 : Hid (CBox W0 w.heap.size) := Lib.hid (by rw [← hW0]; exact Blk.new _ _ _)
  cases hk : okO o with
  | none =>
    have HX : Hid (parseS l = .error 421) := Lib.hid (by rw [HPS.out, hk])
    have HK0 := Lib.hid hk
    clear hk
    go_enter Tryz.func17, Tryz.ntmps17
    go_upto_region 3 with (first
      | (go_at_call 45; refine (HC1.out _).mono ?_; rintro e w1 ⟨rfl, hb1⟩)
      | (go_at_call 46; refine (HPl.out _).mono ?_; rintro e w2 ⟨rfl, hb2⟩))
    generalize hW3 : w2.alloc (Obj.cells #[.int .i64 0, .int .i64 0, .int .i64 0, .int .i64 0, .int .i64 0, .string ⟨#[]⟩, .slice none 0 0, .int .i64 0, .bool false, .slice none 0 0, .int .i64 0, .slice none 0 0] 47) = W3
    have HR2 : Hid (CBox w2 w.heap.size) := Lib.hid (Blk.below (Blk.below HR0.out hb1) hb2)
    have HG : Hid (w.heap.size < w2.heap.size) := Lib.hid (Blk.lt HR2.out)
    have HQ3 : Hid (CBox W3 w2.heap.size) := Lib.hid (by rw [← hW3]; exact Blk.new _ _ _)
    have HR3 : Hid (CBox W3 w.heap.size) := Lib.hid (by rw [← hW3]; exact Blk.alloc HR2.out _)
    have HB3 : Hid (Below w.heap.size w W3) := Lib.hid (by rw [← hW3]; exact below_thn (below_thn (below_thn HB0.out hb1) hb2) (below_alloc _ _))
    generalize w2.heap.size = g at HG HQ3 ⊢
    clear hW3 hb1 hb2 HR2 hW0 HR0 HB0
    go_upto_region 17 with (first
      | (go_at_call 47; refine (HK.out _).mono ?_; rintro e w4 ⟨rfl, hb4⟩)
      | (go_at_call 48; refine (HV.out _).mono ?_; rintro e w5 ⟨v, c, hev, hown, hb5, -⟩; rw [HK0.out] at hev; simp only [Option.isSome_none] at hev; subst hev; obtain ⟨pv, cv, tv, xs, hve, ho1, ho2, ho3, htr⟩ := hown; obtain ⟨pa, pc, hpv, -, -, -⟩ := own_form ho1; obtain ⟨ca, cc, hcv, -, -, -⟩ := own_form ho2; obtain ⟨ta, tc, htv, -, -, -⟩ := own_form ho3; subst hpv hcv htv; unfold C.val cmdV at hve; subst hve; have HQ5 : Hid (CBox w5 g) := Lib.hid (Blk.below (Blk.below HQ3.out hb4) hb5); obtain ⟨s0, s1, s2, s3, s4, s5, s6, s7, s8, s9, s10, s11⟩ := CBox.cells HQ5.out; obtain ⟨t0, t1, t2, t3, t4, t5, t6, t7, t8, t9, t10, t11⟩ := CBox.free HQ5.out))
    generalize hW7 : ((((((((((((w5).setCell ⟨g, 0, none⟩ (.int .i64 c.k)).setCell ⟨g, 1, none⟩ (.int .i64 c.ak)).setCell ⟨g, 2, none⟩ (.int .i64 c.ek)).setCell ⟨g, 3, none⟩ (.int .i64 c.ec)).setCell ⟨g, 4, none⟩ (.int .i64 c.es)).setCell ⟨g, 5, none⟩ (.string c.sql)).setCell ⟨g, 6, none⟩ (.slice pa c.ps.length pc)).setCell ⟨g, 7, none⟩ (.int .i64 c.n)).setCell ⟨g, 8, none⟩ (.bool c.log)).setCell ⟨g, 9, none⟩ (.slice ca c.ch.length cc)).setCell ⟨g, 10, none⟩ (.int .i64 c.conn)).setCell ⟨g, 11, none⟩ (.slice ta c.told.length tc) = W7
    have hm12 : Moved g w5 W7 := by rw [← hW7]; exact ((((((((((((Moved.set g 0 _ _).trans (Moved.set g 1 _ _)).trans (Moved.set g 2 _ _)).trans (Moved.set g 3 _ _)).trans (Moved.set g 4 _ _)).trans (Moved.set g 5 _ _)).trans (Moved.set g 6 _ _)).trans (Moved.set g 7 _ _)).trans (Moved.set g 8 _ _)).trans (Moved.set g 9 _ _)).trans (Moved.set g 10 _ _)).trans (Moved.set g 11 _ _))
    have HQ7 : Hid (Blk W7 g #[.int .i64 c.k, .int .i64 c.ak, .int .i64 c.ek, .int .i64 c.ec, .int .i64 c.es, .string c.sql, .slice pa c.ps.length pc, .int .i64 c.n, .bool c.log, .slice ca c.ch.length cc, .int .i64 c.conn, .slice ta c.told.length tc] 47) := Lib.hid (by rw [← hW7]; exact Blk.set12 HQ5.out)
    have HR5 : Hid (CBox w5 w.heap.size) := Lib.hid (Blk.below (Blk.below HR3.out hb4) hb5)
    have HR7 : Hid (CBox W7 w.heap.size) := Lib.hid (Blk.moved HR5.out hm12 (by have := HG.out; omega))
    have HB5 : Hid (Below w.heap.size w w5) := Lib.hid (below_thn (below_thn HB3.out hb4) hb5)
    have HB7 : Hid (Below w.heap.size w W7) := Lib.hid (below_over HB5.out hm12 (Nat.le_of_lt HG.out) (Nat.le_refl _))
    have HC7 : Hid (OwnC W7 w.heap.size (c.val (.slice pa c.ps.length pc) (.slice ca c.ch.length cc) (.slice ta c.told.length tc)) c) := Lib.hid ((OwnC.movedR (v := c.val (.slice pa c.ps.length pc) (.slice ca c.ch.length cc) (.slice ta c.told.length tc)) ⟨_, _, _, xs, rfl, ho1, ho2, ho3, htr⟩ HQ5.out hm12).mono (below_thn HB3.out hb4).size)
    clear hW7 s0 s1 s2 s3 s4 s5 s6 s7 s8 s9 s10 s11 t0 t1 t2 t3 t4 t5 t6 t7 t8 t9 t10 t11 ho1 ho2 ho3 htr hm12 hb4 hb5
    obtain ⟨r0, r1, r2, r3, r4, r5, r6, r7, r8, r9, r10, r11⟩ := CBox.cells HR7.out; obtain ⟨g0, g1, g2, g3, g4, g5, g6, g7, g8, g9, g10, g11⟩ := CBox.free HR7.out
    clear HQ7 HC7 HR5 HB5 HQ5 HQ3 HR3 HB3 HPS HV HC1 HPl HK
    go_wp2
    refine bodyPost_ret (by simp [results, Tryz.results17, go_sem, r0, r1, r2, r3, r4, r5, r6, r7, r8, r9, r10, r11]; try rfl) rfl ?_
    exact ParseE.no HX.out (below_over HB7.out ((((((((((((Moved.set w.heap.size 0 _ _).trans (Moved.set w.heap.size 1 _ _)).trans (Moved.set w.heap.size 2 _ _)).trans (Moved.set w.heap.size 3 _ _)).trans (Moved.set w.heap.size 4 _ _)).trans (Moved.set w.heap.size 5 _ _)).trans (Moved.set w.heap.size 6 _ _)).trans (Moved.set w.heap.size 7 _ _)).trans (Moved.set w.heap.size 8 _ _)).trans (Moved.set w.heap.size 9 _ _)).trans (Moved.set w.heap.size 10 _ _)).trans (Moved.set w.heap.size 11 _ _)) (Nat.le_refl _) (Nat.le_refl _))
  | some d =>
    have HX : Hid (parseS l = .ok d) := Lib.hid (by rw [HPS.out, hk])
    have HK0 := Lib.hid hk
    clear hk
    go_enter Tryz.func17, Tryz.ntmps17
    go_upto_region 3 with (first
      | (go_at_call 45; refine (HC1.out _).mono ?_; rintro e w1 ⟨rfl, hb1⟩)
      | (go_at_call 46; refine (HPl.out _).mono ?_; rintro e w2 ⟨rfl, hb2⟩))
    generalize hW3 : w2.alloc (Obj.cells #[.int .i64 0, .int .i64 0, .int .i64 0, .int .i64 0, .int .i64 0, .string ⟨#[]⟩, .slice none 0 0, .int .i64 0, .bool false, .slice none 0 0, .int .i64 0, .slice none 0 0] 47) = W3
    have HR2 : Hid (CBox w2 w.heap.size) := Lib.hid (Blk.below (Blk.below HR0.out hb1) hb2)
    have HG : Hid (w.heap.size < w2.heap.size) := Lib.hid (Blk.lt HR2.out)
    have HQ3 : Hid (CBox W3 w2.heap.size) := Lib.hid (by rw [← hW3]; exact Blk.new _ _ _)
    have HR3 : Hid (CBox W3 w.heap.size) := Lib.hid (by rw [← hW3]; exact Blk.alloc HR2.out _)
    have HB3 : Hid (Below w.heap.size w W3) := Lib.hid (by rw [← hW3]; exact below_thn (below_thn (below_thn HB0.out hb1) hb2) (below_alloc _ _))
    generalize w2.heap.size = g at HG HQ3 ⊢
    clear hW3 hb1 hb2 HR2 hW0 HR0 HB0
    go_upto_region 17 with (first
      | (go_at_call 47; refine (HK.out _).mono ?_; rintro e w4 ⟨rfl, hb4⟩)
      | (go_at_call 48; refine (HV.out _).mono ?_; rintro e w5 ⟨v, c, hev, hown, hb5, hcd⟩; have HCD := Lib.hid (hcd d HK0.out); clear hcd; rw [HK0.out] at hev; simp only [Option.isSome_some] at hev; subst hev; obtain ⟨pv, cv, tv, xs, hve, ho1, ho2, ho3, htr⟩ := hown; obtain ⟨pa, pc, hpv, -, -, -⟩ := own_form ho1; obtain ⟨ca, cc, hcv, -, -, -⟩ := own_form ho2; obtain ⟨ta, tc, htv, -, -, -⟩ := own_form ho3; subst hpv hcv htv; unfold C.val cmdV at hve; subst hve; have HQ5 : Hid (CBox w5 g) := Lib.hid (Blk.below (Blk.below HQ3.out hb4) hb5); obtain ⟨s0, s1, s2, s3, s4, s5, s6, s7, s8, s9, s10, s11⟩ := CBox.cells HQ5.out; obtain ⟨t0, t1, t2, t3, t4, t5, t6, t7, t8, t9, t10, t11⟩ := CBox.free HQ5.out))
    generalize hW7 : ((((((((((((w5).setCell ⟨g, 0, none⟩ (.int .i64 c.k)).setCell ⟨g, 1, none⟩ (.int .i64 c.ak)).setCell ⟨g, 2, none⟩ (.int .i64 c.ek)).setCell ⟨g, 3, none⟩ (.int .i64 c.ec)).setCell ⟨g, 4, none⟩ (.int .i64 c.es)).setCell ⟨g, 5, none⟩ (.string c.sql)).setCell ⟨g, 6, none⟩ (.slice pa c.ps.length pc)).setCell ⟨g, 7, none⟩ (.int .i64 c.n)).setCell ⟨g, 8, none⟩ (.bool c.log)).setCell ⟨g, 9, none⟩ (.slice ca c.ch.length cc)).setCell ⟨g, 10, none⟩ (.int .i64 c.conn)).setCell ⟨g, 11, none⟩ (.slice ta c.told.length tc) = W7
    have hm12 : Moved g w5 W7 := by rw [← hW7]; exact ((((((((((((Moved.set g 0 _ _).trans (Moved.set g 1 _ _)).trans (Moved.set g 2 _ _)).trans (Moved.set g 3 _ _)).trans (Moved.set g 4 _ _)).trans (Moved.set g 5 _ _)).trans (Moved.set g 6 _ _)).trans (Moved.set g 7 _ _)).trans (Moved.set g 8 _ _)).trans (Moved.set g 9 _ _)).trans (Moved.set g 10 _ _)).trans (Moved.set g 11 _ _))
    have HQ7 : Hid (Blk W7 g #[.int .i64 c.k, .int .i64 c.ak, .int .i64 c.ek, .int .i64 c.ec, .int .i64 c.es, .string c.sql, .slice pa c.ps.length pc, .int .i64 c.n, .bool c.log, .slice ca c.ch.length cc, .int .i64 c.conn, .slice ta c.told.length tc] 47) := Lib.hid (by rw [← hW7]; exact Blk.set12 HQ5.out)
    have HR5 : Hid (CBox w5 w.heap.size) := Lib.hid (Blk.below (Blk.below HR3.out hb4) hb5)
    have HR7 : Hid (CBox W7 w.heap.size) := Lib.hid (Blk.moved HR5.out hm12 (by have := HG.out; omega))
    have HB5 : Hid (Below w.heap.size w w5) := Lib.hid (below_thn (below_thn HB3.out hb4) hb5)
    have HB7 : Hid (Below w.heap.size w W7) := Lib.hid (below_over HB5.out hm12 (Nat.le_of_lt HG.out) (Nat.le_refl _))
    have HC7 : Hid (OwnC W7 w.heap.size (c.val (.slice pa c.ps.length pc) (.slice ca c.ch.length cc) (.slice ta c.told.length tc)) c) := Lib.hid ((OwnC.movedR (v := c.val (.slice pa c.ps.length pc) (.slice ca c.ch.length cc) (.slice ta c.told.length tc)) ⟨_, _, _, xs, rfl, ho1, ho2, ho3, htr⟩ HQ5.out hm12).mono (below_thn HB3.out hb4).size)
    clear hW7 s0 s1 s2 s3 s4 s5 s6 s7 s8 s9 s10 s11 t0 t1 t2 t3 t4 t5 t6 t7 t8 t9 t10 t11 ho1 ho2 ho3 htr hm12 hb4 hb5
    obtain ⟨r0, r1, r2, r3, r4, r5, r6, r7, r8, r9, r10, r11⟩ := CBox.cells HR7.out; obtain ⟨g0, g1, g2, g3, g4, g5, g6, g7, g8, g9, g10, g11⟩ := CBox.free HR7.out
    obtain ⟨u0, u1, u2, u3, u4, u5, u6, u7, u8, u9, u10, u11⟩ := Blk.c12 HQ7.out
    clear HQ7 HR5 HB5 HQ5 HQ3 HR3 HB3 HPS HV HC1 HPl HK
    go_wp2
    refine bodyPost_ret (by simp [results, Tryz.results17, go_sem, r0, r1, r2, r3, r4, r5, r6, r7, r8, r9, r10, r11]; try rfl) rfl ?_
    exact ParseE.yes (c := c) (by rw [HX.out, HCD.out]) (HC7.out.movedR HR7.out ((((((((((((Moved.set w.heap.size 0 _ _).trans (Moved.set w.heap.size 1 _ _)).trans (Moved.set w.heap.size 2 _ _)).trans (Moved.set w.heap.size 3 _ _)).trans (Moved.set w.heap.size 4 _ _)).trans (Moved.set w.heap.size 5 _ _)).trans (Moved.set w.heap.size 6 _ _)).trans (Moved.set w.heap.size 7 _ _)).trans (Moved.set w.heap.size 8 _ _)).trans (Moved.set w.heap.size 9 _ _)).trans (Moved.set w.heap.size 10 _ _)).trans (Moved.set w.heap.size 11 _ _))) (below_over HB7.out ((((((((((((Moved.set w.heap.size 0 _ _).trans (Moved.set w.heap.size 1 _ _)).trans (Moved.set w.heap.size 2 _ _)).trans (Moved.set w.heap.size 3 _ _)).trans (Moved.set w.heap.size 4 _ _)).trans (Moved.set w.heap.size 5 _ _)).trans (Moved.set w.heap.size 6 _ _)).trans (Moved.set w.heap.size 7 _ _)).trans (Moved.set w.heap.size 8 _ _)).trans (Moved.set w.heap.size 9 _ _)).trans (Moved.set w.heap.size 10 _ _)).trans (Moved.set w.heap.size 11 _ _)) (Nat.le_refl _) (Nat.le_refl _))
end Go.Proofs.YtkkildkleleppaaGreatDoor
namespace Go.Proofs.YtkkildkleleppaaGreatDoor
open Go.RowKit

theorem ABox.made {W0 W1 : World} (h : W0.alloc (.cells #[.int .i64 5, .int .i64 0, .int .i64 0, .int .i64 0, .string ⟨#[]⟩, .slice none 0 0, .int .i64 0, .bool false, .slice none 0 0] 45) = W1) : ABox W1 W0.heap.size false (.slice none 0 0) ∧ Below W0.heap.size W0 W1 := by
  subst h
  exact ⟨Blk.new _ _ _, below_alloc _ _⟩
theorem restartR_no {l x q : List UInt8} {m b : Bool} (h : cutX true false l = (x, q, b)) (hn : m = false ∨ (x ≠ logW ∧ x ≠ journalW)) : restartR (l, m) = none := by
  unfold restartR wordS
  cases m with
  | false => rfl
  | true =>
    simp only [if_true, h]
    rcases hn with hn | ⟨h1, h2⟩
    · cases hn
    · rw [if_neg (by rintro (h | h); exact h1 h; exact h2 h)]
theorem restartR_yes {l x q : List UInt8} {b : Bool} (h : cutX true false l = (x, q, b)) (hx : x = logW ∨ x = journalW) : restartR (l, true) = (choicesR (q.length + 2) (q, b)).map fun l => (C.act 5 0 (decide (x = logW)) l, false) := by
  unfold restartR wordS
  simp only [if_true, h]
  rw [if_pos hx]
/-- Where a restart's reading stands. -/
structure RN (w W0 wr : World) (lg : Bool) (cv : Value) (acc : List Int) : Prop where
  bl : Below w.heap.size w wr
  ab : ABox wr W0.heap.size lg cv
  own : wr.ownsRow (w.heap.size + 1) 3 1 cv acc.length (jcells acc)
  rb : CBox wr w.heap.size
  wz : w.heap.size < W0.heap.size
section
variable {w W0 wr wr' : World} {lg : Bool} {cv cv' : Value} {acc : List Int}
theorem RN.below (h : RN w W0 wr lg cv acc) (hb : Below wr.heap.size wr wr') : RN w W0 wr' lg cv acc := ⟨below_thn h.bl hb, Blk.below h.ab hb, own_kept h.own hb, Blk.below h.rb hb, h.wz⟩
theorem RN.alloc (h : RN w W0 wr lg cv acc) (o : Obj) : RN w W0 (wr.alloc o) lg cv acc := h.below (below_alloc _ _)
theorem RN.push {n : Int} (h : RN w W0 wr lg cv acc) (ho : wr'.ownsRow (w.heap.size + 1) 3 1 cv' (acc.length + 1) (jcells acc ++ [.int .i64 n])) (hg : wr.grownBy wr' cv.ownBlock) :
    RN w W0 (wr'.setCell ⟨W0.heap.size, 8, none⟩ cv') lg cv' (acc ++ [n]) := by
  have hab : ABox wr' W0.heap.size lg cv := Blk.grown h.ab h.own hg (by decide)
  have hrb : CBox wr' w.heap.size := Blk.grown h.rb h.own hg (by decide)
  have hbl : Below w.heap.size w wr' := own_next (own_mono (by omega) h.own) h.bl hg h.bl.size
  have hwz := h.wz
  refine ⟨below_over hbl (Moved.set W0.heap.size 8 _ _) (Nat.le_of_lt hwz) (Nat.le_refl _), Blk.set hab 8 cv', ?_, hrb.setO (by simp only; omega) _, hwz⟩
  have e : (acc ++ [n]).length = acc.length + 1 := by simp
  rw [e, jcells_append]
  exact Blk.own_set hab ho (by decide) 8 cv'
end

set_option maxRecDepth 100000 in
set_option maxHeartbeats 4000000 in
theorem rrestart_any (s : St) (hs : s.1.length ≤ 100000000) (w : World) :
    Calls Tryz.prog 50 #[.string ⟨s.1.toArray⟩, .bool s.2] w (RcE w (restartR s)) := by
  obtain ⟨l, m⟩ := s
  simp only at hs ⊢
  obtain ⟨x1, q1, b1, h1⟩ : ∃ x r b, cutX true false l = (x, r, b) := ⟨_, _, _, rfl⟩
  have hx := cutX_len true false l
  rw [h1] at hx
  simp only at hx
  have HC1 := Lib.hid (rcut_at true l x1 q1 b1 hs h1)
  have HQ : Hid (q1.length ≤ 100000000) := Lib.hid (by omega)
  obtain ⟨W0, hW0⟩ : ∃ W0, w.alloc (.cells #[.int .i64 0, .int .i64 0, .int .i64 0, .int .i64 0, .int .i64 0, .string ⟨#[]⟩, .slice none 0 0, .int .i64 0, .bool false, .slice none 0 0, .int .i64 0, .slice none 0 0] 47) = W0 := ⟨_, rfl⟩
  have HB0 : Hid (Below w.heap.size w W0) := Lib.hid (by rw [← hW0]; exact below_alloc _ _)
  have HR0 : Hid (CBox W0 w.heap.size) := Lib.hid (by rw [← hW0]; exact Blk.new _ _ _)
  cases m with
  | false =>
    have HX := Lib.hid (restartR_no (m := false) h1 (.inl rfl))
    clear hx h1
    go_enter Tryz.func50, Tryz.ntmps50
    go_upto_region 2 with fail
    generalize hW1 : W0.alloc (.cells #[.int .i64 5, .int .i64 0, .int .i64 0, .int .i64 0, .string ⟨#[]⟩, .slice none 0 0, .int .i64 0, .bool false, .slice none 0 0] 45) = W1
    obtain ⟨hA1, hb1⟩ := ABox.made hW1
    have HZ : Hid (w.heap.size < W0.heap.size) := Lib.hid (by rw [← hW0]; simp)
    have HA1 := Lib.hid hA1
    have HR1 : Hid (CBox W1 w.heap.size) := Lib.hid (Blk.below HR0.out hb1)
    have HB1 : Hid (Below w.heap.size w W1) := Lib.hid (below_thn HB0.out hb1)
    clear hW1 hA1 hb1 hW0
    go_wp2_with (go_at_call 45; refine (HC1.out _).mono ?_; rintro e w2 ⟨rfl, hb2⟩; have HA2 : Hid (ABox w2 W0.heap.size false (.slice none 0 0)) := Lib.hid (Blk.below HA1.out hb2); have f7 := Blk.free HA2.out 7; obtain ⟨d0, d1, d2, d3, d4, d5, d6, d7, d8⟩ := ABox.cells HA2.out; have HR2b : Hid (CBox (w2.setCell ⟨W0.heap.size, 7, none⟩ (.bool (x1 == [108, 111, 103]))) w.heap.size) := Lib.hid (Blk.setO (Blk.below HR1.out hb2) (by have := HZ.out; simp only; omega) _); have HB2 : Hid (Below w.heap.size w (w2.setCell ⟨W0.heap.size, 7, none⟩ (.bool (x1 == [108, 111, 103])))) := Lib.hid (below_over (below_thn HB1.out hb2) (Moved.set W0.heap.size 7 _ _) (Nat.le_of_lt HZ.out) (Nat.le_refl _)); obtain ⟨r0, r1, r2, r3, r4, r5, r6, r7, r8, r9, r10, r11⟩ := CBox.cells HR2b.out; obtain ⟨g0, g1, g2, g3, g4, g5, g6, g7, g8, g9, g10, g11⟩ := CBox.free HR2b.out)
    refine bodyPost_ret (by simp [results, Tryz.results50, go_sem, r0, r1, r2, r3, r4, r5, r6, r7, r8, r9, r10, r11]; try rfl) rfl ?_
    exact RcE.fin (OwnC.zero _ _) (by rw [HX.out]; rfl) (by rw [HX.out]; rintro d ⟨⟩) HR2b.out HB2.out ((((((((((((Moved.set w.heap.size 0 _ _).trans (Moved.set w.heap.size 1 _ _)).trans (Moved.set w.heap.size 2 _ _)).trans (Moved.set w.heap.size 3 _ _)).trans (Moved.set w.heap.size 4 _ _)).trans (Moved.set w.heap.size 5 _ _)).trans (Moved.set w.heap.size 6 _ _)).trans (Moved.set w.heap.size 7 _ _)).trans (Moved.set w.heap.size 8 _ _)).trans (Moved.set w.heap.size 9 _ _)).trans (Moved.set w.heap.size 10 _ _)).trans (Moved.set w.heap.size 11 _ _))
  | true =>
    by_cases hl1 : x1 = logW
    · subst hl1
      have HRS := Lib.hid (restartR_yes h1 (.inl rfl))
      clear hx h1
      rw [decide_eq_true (rfl : logW = logW)] at HRS
      have hlw : logW = [108, 111, 103] := rfl
      go_enter Tryz.func50, Tryz.ntmps50
      go_upto_region 2 with fail
      generalize hW1 : W0.alloc (.cells #[.int .i64 5, .int .i64 0, .int .i64 0, .int .i64 0, .string ⟨#[]⟩, .slice none 0 0, .int .i64 0, .bool false, .slice none 0 0] 45) = W1
      obtain ⟨hA1, hb1⟩ := ABox.made hW1
      have HZ : Hid (w.heap.size < W0.heap.size) := Lib.hid (by rw [← hW0]; simp)
      have HA1 := Lib.hid hA1
      have HR1 : Hid (CBox W1 w.heap.size) := Lib.hid (Blk.below HR0.out hb1)
      have HB1 : Hid (Below w.heap.size w W1) := Lib.hid (below_thn HB0.out hb1)
      clear hW1 hA1 hb1 hW0
      go_upto_region 4 with (go_at_call 45; refine (HC1.out _).mono ?_; rintro e w2 ⟨rfl, hb2⟩; have HA2 : Hid (ABox w2 W0.heap.size false (.slice none 0 0)) := Lib.hid (Blk.below HA1.out hb2); have f7 := Blk.free HA2.out 7; obtain ⟨d0, d1, d2, d3, d4, d5, d6, d7, d8⟩ := ABox.cells HA2.out)
      generalize hW3 : w2.setCell ⟨W0.heap.size, 7, none⟩ (.bool true) = W3
      have HA3 : Hid (ABox W3 W0.heap.size true (.slice none 0 0)) := Lib.hid (by rw [← hW3]; exact Blk.set HA2.out 7 _)
      have HRN : Hid (RN w W0 W3 true (.slice none 0 0) []) := Lib.hid (by
        refine ⟨?_, HA3.out, World.ownsRow_nil _ _ _ _, ?_, HZ.out⟩
        · rw [← hW3]; exact below_over (below_thn HB1.out hb2) (Moved.set W0.heap.size 7 _ _) (Nat.le_of_lt HZ.out) (Nat.le_refl _)
        · rw [← hW3]; exact Blk.setO (Blk.below HR1.out hb2) (by have := HZ.out; simp only; omega) _)
      clear d0 d1 d2 d3 d4 d5 d6 d7 d8 f7 hW3 HA2
      obtain ⟨d0, d1, d2, d3, d4, d5, d6, d7, d8⟩ := ABox.cells HA3.out
      have hbd : ([] : List Int).length + (if b1 = true then q1.length + 1 else 0) ≤ q1.length + 1 := by simp; split <;> omega
      go_wp2
      go_loopw [0, 8] (fun r bh wr => ∃ (s2 : St) (cv : Value) (acc : List Int), r = .string ⟨s2.1.toArray⟩ ∧ bh = .bool s2.2 ∧ s2.1.length ≤ 100000000 ∧ acc.length + (if s2.2 = true then s2.1.length + 1 else 0) ≤ q1.length + 1 ∧ Hid (RN w W0 wr true cv acc) ∧ Hid (RE (q1, b1) s2 acc)) (fun r bh _ => match bh, r with | .bool true, .string x => x.size + 1 | _, _ => 0)
      case atStart => exact ⟨(q1, b1), _, [], rfl, rfl, HQ.out, hbd, HRN, Lib.hid (RE.start _)⟩
      case round =>
        obtain ⟨⟨l2, m2⟩, cv, acc, rfl, rfl, hl2, hac, H, HE⟩ := hrel
        simp only at hl2 hac
        clear d0 d1 d2 d3 d4 d5 d6 d7 d8
        cases m2 with
        | true =>
          simp only [if_true] at hac
          obtain ⟨x2, q2, b2, h2⟩ : ∃ x r b, cutX true false l2 = (x, r, b) := ⟨_, _, _, rfl⟩
          have hx2 := cutX_len true false l2
          rw [h2] at hx2
          simp only at hx2
          have HC2 := Lib.hid (rcut_at true l2 x2 q2 b2 hl2 h2)
          have hN2 := rnumb_at x2 (by omega)
          have hnS : numS (l2, true) = (numO x2).map fun n => (n, (q2, b2)) := by simp [numS, wordS, h2]
          cases hn : numO x2 with
          | none =>
            rw [hn] at hN2 hnS
            have HX : Hid (restartR (l, true) = none) := Lib.hid (by rw [HRS.out, HE.out.none rfl hnS]; rfl)
            have HN2 := Lib.hid hN2
            clear hN2 hnS hn h2 hx2
            go_wp2_with (first
              | (go_at_call 45; refine (HC2.out _).mono ?_; rintro e w3 ⟨rfl, hb3⟩)
              | (go_at_call 103; refine (HN2.out _).mono ?_; rintro e w4 ⟨rfl, hb4⟩; have H4 := Lib.hid ((H.out.below hb3).below hb4); obtain ⟨r0, r1, r2, r3, r4, r5, r6, r7, r8, r9, r10, r11⟩ := CBox.cells H4.out.rb; obtain ⟨g0, g1, g2, g3, g4, g5, g6, g7, g8, g9, g10, g11⟩ := CBox.free H4.out.rb))
            refine bodyPost_ret (by simp [results, Tryz.results50, go_sem, r0, r1, r2, r3, r4, r5, r6, r7, r8, r9, r10, r11]; try rfl) rfl ?_
            exact RcE.fin (w8 := w4) (OwnC.zero _ _) (by rw [HX.out]; rfl) (by rw [HX.out]; rintro d ⟨⟩) H4.out.rb H4.out.bl ((((((((((((Moved.set w.heap.size 0 _ _).trans (Moved.set w.heap.size 1 _ _)).trans (Moved.set w.heap.size 2 _ _)).trans (Moved.set w.heap.size 3 _ _)).trans (Moved.set w.heap.size 4 _ _)).trans (Moved.set w.heap.size 5 _ _)).trans (Moved.set w.heap.size 6 _ _)).trans (Moved.set w.heap.size 7 _ _)).trans (Moved.set w.heap.size 8 _ _)).trans (Moved.set w.heap.size 9 _ _)).trans (Moved.set w.heap.size 10 _ _)).trans (Moved.set w.heap.size 11 _ _))
          | some n =>
            rw [hn] at hN2 hnS
            simp only [Option.getD_some, Option.isSome_some] at hN2
            have HN2 := Lib.hid hN2
            have HE1 := Lib.hid (HE.out.step rfl hnS)
            have hls := num_less hnS
            simp only at hls
            have hl3 : q2.length ≤ 100000000 := by omega
            have hac3 : (acc ++ [n]).length + (if b2 = true then q2.length + 1 else 0) ≤ q1.length + 1 := by
              simp only [List.length_append, List.length_cons, List.length_nil]
              split
              · have := hls (by assumption); omega
              · omega
            have hms : (if b2 = true then q2.length + 1 else 0) < l2.length + 1 := by
              split
              · have := hls (by assumption); omega
              · omega
            have HMS := Lib.hid hms
            have HA4 := Lib.hid hac3
            have hacb : acc.length ≤ 100000001 := by have := HQ.out; omega
            clear hN2 hnS hn h2 hx2 hls hms hac3
            obtain ⟨va, vc, he, -, -, -⟩ := own_form H.out.own
            subst he
            go_wp2_with (first
              | (go_at_call 45; refine (HC2.out _).mono ?_; rintro e w3 ⟨rfl, hb3⟩)
              | (go_at_call 103; refine (HN2.out _).mono ?_; rintro e w4 ⟨rfl, hb4⟩; have H4 := Lib.hid ((H.out.below hb3).below hb4); obtain ⟨d0, d1, d2, d3, d4, d5, d6, d7, d8⟩ := ABox.cells H4.out.ab)
              | (at_builtin; refine wpList_pushR2 w4 3 _ rfl (.tmp 52) (.tmp 54) _ rfl (w.heap.size + 1) _ 1 8 Tryz.underlying43 infoJ rfl (by decide) (by decide) _ acc.length (jcells acc) rfl H4.out.own [.int .i64 n] rfl (by intro u hu; simp only [List.mem_cons, List.not_mem_nil, or_false] at hu; subst hu; rfl) 1 1 _ (by simp) rfl rfl (by omega) (by have := HZ.out; have := Blk.lt H4.out.ab; omega) ?_; intro v6 w6 hown6 hg6; obtain ⟨va6, vc6, he6, -, -, -⟩ := own_form hown6; subst he6; have H6 := Lib.hid (H4.out.push hown6 hg6); have B6 := Lib.hid (Blk.grown H4.out.ab H4.out.own hg6 (by decide)); have s8 := Blk.cell B6.out 8; have y8 := Blk.free B6.out 8))
            go_roundw
            case rel => exact ⟨(q2, b2), _, acc ++ [n], rfl, rfl, hl3, HA4.out, H6, HE1⟩
            case measure =>
              have := HMS.out
              cases b2 <;> simp [ByteArray.size] at this ⊢ <;> omega
        | false =>
          have HX : Hid (restartR (l, true) = some (C.act 5 0 true acc, false)) := Lib.hid (by rw [HRS.out, HE.out.done rfl]; rfl)
          obtain ⟨va, vc, he, -, -, -⟩ := own_form H.out.own
          subst he
          obtain ⟨d0, d1, d2, d3, d4, d5, d6, d7, d8⟩ := ABox.cells H.out.ab
          obtain ⟨r0, r1, r2, r3, r4, r5, r6, r7, r8, r9, r10, r11⟩ := CBox.cells H.out.rb; obtain ⟨g0, g1, g2, g3, g4, g5, g6, g7, g8, g9, g10, g11⟩ := CBox.free H.out.rb
          go_wp2
          refine bodyPost_ret (by simp [results, Tryz.results50, go_sem, r0, r1, r2, r3, r4, r5, r6, r7, r8, r9, r10, r11]; try rfl) rfl ?_
          exact RcE.fin (w8 := wr) ⟨_, _, _, [], rfl, World.ownsRow_nil _ _ _ _, own_mono (Nat.le_succ _) H.out.own, World.ownsRow_nil _ _ _ _, TRow.nil_ _ _ _⟩ (by rw [HX.out]; rfl) (by intro d hd; rw [HX.out] at hd; cases hd; rfl) H.out.rb H.out.bl ((((((((((((Moved.set w.heap.size 0 _ _).trans (Moved.set w.heap.size 1 _ _)).trans (Moved.set w.heap.size 2 _ _)).trans (Moved.set w.heap.size 3 _ _)).trans (Moved.set w.heap.size 4 _ _)).trans (Moved.set w.heap.size 5 _ _)).trans (Moved.set w.heap.size 6 _ _)).trans (Moved.set w.heap.size 7 _ _)).trans (Moved.set w.heap.size 8 _ _)).trans (Moved.set w.heap.size 9 _ _)).trans (Moved.set w.heap.size 10 _ _)).trans (Moved.set w.heap.size 11 _ _))
    · by_cases hj1 : x1 = journalW
      · subst hj1
        have HRS := Lib.hid (restartR_yes h1 (.inr rfl))
        clear hx h1 hl1
        rw [decide_eq_false (by decide : journalW ≠ logW)] at HRS
        have hlw : journalW = [106, 111, 117, 114, 110, 97, 108] := rfl
        go_enter Tryz.func50, Tryz.ntmps50
        go_upto_region 2 with fail
        generalize hW1 : W0.alloc (.cells #[.int .i64 5, .int .i64 0, .int .i64 0, .int .i64 0, .string ⟨#[]⟩, .slice none 0 0, .int .i64 0, .bool false, .slice none 0 0] 45) = W1
        obtain ⟨hA1, hb1⟩ := ABox.made hW1
        have HZ : Hid (w.heap.size < W0.heap.size) := Lib.hid (by rw [← hW0]; simp)
        have HA1 := Lib.hid hA1
        have HR1 : Hid (CBox W1 w.heap.size) := Lib.hid (Blk.below HR0.out hb1)
        have HB1 : Hid (Below w.heap.size w W1) := Lib.hid (below_thn HB0.out hb1)
        clear hW1 hA1 hb1 hW0
        go_upto_region 4 with (go_at_call 45; refine (HC1.out _).mono ?_; rintro e w2 ⟨rfl, hb2⟩; have HA2 : Hid (ABox w2 W0.heap.size false (.slice none 0 0)) := Lib.hid (Blk.below HA1.out hb2); have f7 := Blk.free HA2.out 7; obtain ⟨d0, d1, d2, d3, d4, d5, d6, d7, d8⟩ := ABox.cells HA2.out)
        generalize hW3 : w2.setCell ⟨W0.heap.size, 7, none⟩ (.bool false) = W3
        have HA3 : Hid (ABox W3 W0.heap.size false (.slice none 0 0)) := Lib.hid (by rw [← hW3]; exact Blk.set HA2.out 7 _)
        have HRN : Hid (RN w W0 W3 false (.slice none 0 0) []) := Lib.hid (by
          refine ⟨?_, HA3.out, World.ownsRow_nil _ _ _ _, ?_, HZ.out⟩
          · rw [← hW3]; exact below_over (below_thn HB1.out hb2) (Moved.set W0.heap.size 7 _ _) (Nat.le_of_lt HZ.out) (Nat.le_refl _)
          · rw [← hW3]; exact Blk.setO (Blk.below HR1.out hb2) (by have := HZ.out; simp only; omega) _)
        clear d0 d1 d2 d3 d4 d5 d6 d7 d8 f7 hW3 HA2
        obtain ⟨d0, d1, d2, d3, d4, d5, d6, d7, d8⟩ := ABox.cells HA3.out
        have hbd : ([] : List Int).length + (if b1 = true then q1.length + 1 else 0) ≤ q1.length + 1 := by simp; split <;> omega
        go_wp2
        go_loopw [0, 8] (fun r bh wr => ∃ (s2 : St) (cv : Value) (acc : List Int), r = .string ⟨s2.1.toArray⟩ ∧ bh = .bool s2.2 ∧ s2.1.length ≤ 100000000 ∧ acc.length + (if s2.2 = true then s2.1.length + 1 else 0) ≤ q1.length + 1 ∧ Hid (RN w W0 wr false cv acc) ∧ Hid (RE (q1, b1) s2 acc)) (fun r bh _ => match bh, r with | .bool true, .string x => x.size + 1 | _, _ => 0)
        case atStart => exact ⟨(q1, b1), _, [], rfl, rfl, HQ.out, hbd, HRN, Lib.hid (RE.start _)⟩
        case round =>
          obtain ⟨⟨l2, m2⟩, cv, acc, rfl, rfl, hl2, hac, H, HE⟩ := hrel
          simp only at hl2 hac
          clear d0 d1 d2 d3 d4 d5 d6 d7 d8
          cases m2 with
          | true =>
            simp only [if_true] at hac
            obtain ⟨x2, q2, b2, h2⟩ : ∃ x r b, cutX true false l2 = (x, r, b) := ⟨_, _, _, rfl⟩
            have hx2 := cutX_len true false l2
            rw [h2] at hx2
            simp only at hx2
            have HC2 := Lib.hid (rcut_at true l2 x2 q2 b2 hl2 h2)
            have hN2 := rnumb_at x2 (by omega)
            have hnS : numS (l2, true) = (numO x2).map fun n => (n, (q2, b2)) := by simp [numS, wordS, h2]
            cases hn : numO x2 with
            | none =>
              rw [hn] at hN2 hnS
              have HX : Hid (restartR (l, true) = none) := Lib.hid (by rw [HRS.out, HE.out.none rfl hnS]; rfl)
              have HN2 := Lib.hid hN2
              clear hN2 hnS hn h2 hx2
              go_wp2_with (first
                | (go_at_call 45; refine (HC2.out _).mono ?_; rintro e w3 ⟨rfl, hb3⟩)
                | (go_at_call 103; refine (HN2.out _).mono ?_; rintro e w4 ⟨rfl, hb4⟩; have H4 := Lib.hid ((H.out.below hb3).below hb4); obtain ⟨r0, r1, r2, r3, r4, r5, r6, r7, r8, r9, r10, r11⟩ := CBox.cells H4.out.rb; obtain ⟨g0, g1, g2, g3, g4, g5, g6, g7, g8, g9, g10, g11⟩ := CBox.free H4.out.rb))
              refine bodyPost_ret (by simp [results, Tryz.results50, go_sem, r0, r1, r2, r3, r4, r5, r6, r7, r8, r9, r10, r11]; try rfl) rfl ?_
              exact RcE.fin (w8 := w4) (OwnC.zero _ _) (by rw [HX.out]; rfl) (by rw [HX.out]; rintro d ⟨⟩) H4.out.rb H4.out.bl ((((((((((((Moved.set w.heap.size 0 _ _).trans (Moved.set w.heap.size 1 _ _)).trans (Moved.set w.heap.size 2 _ _)).trans (Moved.set w.heap.size 3 _ _)).trans (Moved.set w.heap.size 4 _ _)).trans (Moved.set w.heap.size 5 _ _)).trans (Moved.set w.heap.size 6 _ _)).trans (Moved.set w.heap.size 7 _ _)).trans (Moved.set w.heap.size 8 _ _)).trans (Moved.set w.heap.size 9 _ _)).trans (Moved.set w.heap.size 10 _ _)).trans (Moved.set w.heap.size 11 _ _))
            | some n =>
              rw [hn] at hN2 hnS
              simp only [Option.getD_some, Option.isSome_some] at hN2
              have HN2 := Lib.hid hN2
              have HE1 := Lib.hid (HE.out.step rfl hnS)
              have hls := num_less hnS
              simp only at hls
              have hl3 : q2.length ≤ 100000000 := by omega
              have hac3 : (acc ++ [n]).length + (if b2 = true then q2.length + 1 else 0) ≤ q1.length + 1 := by
                simp only [List.length_append, List.length_cons, List.length_nil]
                split
                · have := hls (by assumption); omega
                · omega
              have hms : (if b2 = true then q2.length + 1 else 0) < l2.length + 1 := by
                split
                · have := hls (by assumption); omega
                · omega
              have HMS := Lib.hid hms
              have HA4 := Lib.hid hac3
              have hacb : acc.length ≤ 100000001 := by have := HQ.out; omega
              clear hN2 hnS hn h2 hx2 hls hms hac3
              obtain ⟨va, vc, he, -, -, -⟩ := own_form H.out.own
              subst he
              go_wp2_with (first
                | (go_at_call 45; refine (HC2.out _).mono ?_; rintro e w3 ⟨rfl, hb3⟩)
                | (go_at_call 103; refine (HN2.out _).mono ?_; rintro e w4 ⟨rfl, hb4⟩; have H4 := Lib.hid ((H.out.below hb3).below hb4); obtain ⟨d0, d1, d2, d3, d4, d5, d6, d7, d8⟩ := ABox.cells H4.out.ab)
                | (at_builtin; refine wpList_pushR2 w4 3 _ rfl (.tmp 52) (.tmp 54) _ rfl (w.heap.size + 1) _ 1 8 Tryz.underlying43 infoJ rfl (by decide) (by decide) _ acc.length (jcells acc) rfl H4.out.own [.int .i64 n] rfl (by intro u hu; simp only [List.mem_cons, List.not_mem_nil, or_false] at hu; subst hu; rfl) 1 1 _ (by simp) rfl rfl (by omega) (by have := HZ.out; have := Blk.lt H4.out.ab; omega) ?_; intro v6 w6 hown6 hg6; obtain ⟨va6, vc6, he6, -, -, -⟩ := own_form hown6; subst he6; have H6 := Lib.hid (H4.out.push hown6 hg6); have B6 := Lib.hid (Blk.grown H4.out.ab H4.out.own hg6 (by decide)); have s8 := Blk.cell B6.out 8; have y8 := Blk.free B6.out 8))
              go_roundw
              case rel => exact ⟨(q2, b2), _, acc ++ [n], rfl, rfl, hl3, HA4.out, H6, HE1⟩
              case measure =>
                have := HMS.out
                cases b2 <;> simp [ByteArray.size] at this ⊢ <;> omega
          | false =>
            have HX : Hid (restartR (l, true) = some (C.act 5 0 false acc, false)) := Lib.hid (by rw [HRS.out, HE.out.done rfl]; rfl)
            obtain ⟨va, vc, he, -, -, -⟩ := own_form H.out.own
            subst he
            obtain ⟨d0, d1, d2, d3, d4, d5, d6, d7, d8⟩ := ABox.cells H.out.ab
            obtain ⟨r0, r1, r2, r3, r4, r5, r6, r7, r8, r9, r10, r11⟩ := CBox.cells H.out.rb; obtain ⟨g0, g1, g2, g3, g4, g5, g6, g7, g8, g9, g10, g11⟩ := CBox.free H.out.rb
            go_wp2
            refine bodyPost_ret (by simp [results, Tryz.results50, go_sem, r0, r1, r2, r3, r4, r5, r6, r7, r8, r9, r10, r11]; try rfl) rfl ?_
            exact RcE.fin (w8 := wr) ⟨_, _, _, [], rfl, World.ownsRow_nil _ _ _ _, own_mono (Nat.le_succ _) H.out.own, World.ownsRow_nil _ _ _ _, TRow.nil_ _ _ _⟩ (by rw [HX.out]; rfl) (by intro d hd; rw [HX.out] at hd; cases hd; rfl) H.out.rb H.out.bl ((((((((((((Moved.set w.heap.size 0 _ _).trans (Moved.set w.heap.size 1 _ _)).trans (Moved.set w.heap.size 2 _ _)).trans (Moved.set w.heap.size 3 _ _)).trans (Moved.set w.heap.size 4 _ _)).trans (Moved.set w.heap.size 5 _ _)).trans (Moved.set w.heap.size 6 _ _)).trans (Moved.set w.heap.size 7 _ _)).trans (Moved.set w.heap.size 8 _ _)).trans (Moved.set w.heap.size 9 _ _)).trans (Moved.set w.heap.size 10 _ _)).trans (Moved.set w.heap.size 11 _ _))
      · have HX := Lib.hid (restartR_no (m := true) h1 (.inr ⟨hl1, hj1⟩))
        have e1 : (x1 == [108, 111, 103]) = false := by rw [beq_eq_false_iff_ne]; exact hl1
        have e2 : (x1 == [106, 111, 117, 114, 110, 97, 108]) = false := by rw [beq_eq_false_iff_ne]; exact hj1
        clear hx h1 hl1 hj1
        go_enter Tryz.func50, Tryz.ntmps50
        go_upto_region 2 with fail
        generalize hW1 : W0.alloc (.cells #[.int .i64 5, .int .i64 0, .int .i64 0, .int .i64 0, .string ⟨#[]⟩, .slice none 0 0, .int .i64 0, .bool false, .slice none 0 0] 45) = W1
        obtain ⟨hA1, hb1⟩ := ABox.made hW1
        have HZ : Hid (w.heap.size < W0.heap.size) := Lib.hid (by rw [← hW0]; simp)
        have HA1 := Lib.hid hA1
        have HR1 : Hid (CBox W1 w.heap.size) := Lib.hid (Blk.below HR0.out hb1)
        have HB1 : Hid (Below w.heap.size w W1) := Lib.hid (below_thn HB0.out hb1)
        clear hW1 hA1 hb1 hW0
        go_wp2_with (go_at_call 45; refine (HC1.out _).mono ?_; rintro e w2 ⟨rfl, hb2⟩; have HA2 : Hid (ABox w2 W0.heap.size false (.slice none 0 0)) := Lib.hid (Blk.below HA1.out hb2); have f7 := Blk.free HA2.out 7; obtain ⟨d0, d1, d2, d3, d4, d5, d6, d7, d8⟩ := ABox.cells HA2.out; have HR2b : Hid (CBox (w2.setCell ⟨W0.heap.size, 7, none⟩ (.bool false)) w.heap.size) := Lib.hid (Blk.setO (Blk.below HR1.out hb2) (by have := HZ.out; simp only; omega) _); have HB2 : Hid (Below w.heap.size w (w2.setCell ⟨W0.heap.size, 7, none⟩ (.bool false))) := Lib.hid (below_over (below_thn HB1.out hb2) (Moved.set W0.heap.size 7 _ _) (Nat.le_of_lt HZ.out) (Nat.le_refl _)); obtain ⟨r0, r1, r2, r3, r4, r5, r6, r7, r8, r9, r10, r11⟩ := CBox.cells HR2b.out; obtain ⟨g0, g1, g2, g3, g4, g5, g6, g7, g8, g9, g10, g11⟩ := CBox.free HR2b.out)
        refine bodyPost_ret (by simp [results, Tryz.results50, go_sem, r0, r1, r2, r3, r4, r5, r6, r7, r8, r9, r10, r11]; try rfl) rfl ?_
        exact RcE.fin (OwnC.zero _ _) (by rw [HX.out]; rfl) (by rw [HX.out]; rintro d ⟨⟩) HR2b.out HB2.out ((((((((((((Moved.set w.heap.size 0 _ _).trans (Moved.set w.heap.size 1 _ _)).trans (Moved.set w.heap.size 2 _ _)).trans (Moved.set w.heap.size 3 _ _)).trans (Moved.set w.heap.size 4 _ _)).trans (Moved.set w.heap.size 5 _ _)).trans (Moved.set w.heap.size 6 _ _)).trans (Moved.set w.heap.size 7 _ _)).trans (Moved.set w.heap.size 8 _ _)).trans (Moved.set w.heap.size 9 _ _)).trans (Moved.set w.heap.size 10 _ _)).trans (Moved.set w.heap.size 11 _ _))
end Go.Proofs.YtkkildkleleppaaGreatDoor
