/- The law walked: bureaulaw32.ShellRound. -/
import Derived.Test.YtkkildkleleppaaGreatDoorJ37
import Derived.Test.YtkkildkleleppaaGreatDoorJ49
import Derived.Test.YtkkildkleleppaaGreatDoorJ52
import Derived.Test.YtkkildkleleppaaGreatDoorJ40
namespace Go.Proofs.YtkkildkleleppaaGreatDoor
open Go.RowKit

theorem LenC.zero_ : LenC C.zero := ⟨by decide, by decide, by decide, by intro t ht; cases ht⟩
theorem printS_cases (c : C) : (printS c = (lineS c, 0) ∧ parseS (lineS c) = .ok c) ∨ printS c = ([], 2) := by
  unfold printS
  cases hr : readAs c (lineS c) with
  | true => exact .inl ⟨rfl, (readAs_eq hr).1⟩
  | false => exact .inr rfl
set_option maxRecDepth 100000 in
set_option maxHeartbeats 4000000 in
theorem rounds_any (v : Value) (c : C) (hf : FitC c) (l : List UInt8) (hl : l.length ≤ 1048576) (w : World) (hE : Env w) (h : IsC w v c) : Calls Tryz.prog 8 #[v, .string ⟨l.toArray⟩] w (Ret w (.bool true)) := by
  have HI := Lib.hid h
  obtain ⟨pa, pc, ca, cc, ta, tc, hv, -⟩ := h
  unfold C.val cmdV at hv
  subst hv
  obtain ⟨W0, hW0⟩ : ∃ W0, w.alloc (.cells #[.int .i64 c.k, .int .i64 c.ak, .int .i64 c.ek, .int .i64 c.ec, .int .i64 c.es, .string c.sql, .slice pa c.ps.length pc, .int .i64 c.n, .bool c.log, .slice ca c.ch.length cc, .int .i64 c.conn, .slice ta c.told.length tc] 47) = W0 := ⟨_, rfl⟩
  have HB : Hid (Below w.heap.size w W0) := Lib.hid (by rw [← hW0]; exact below_alloc _ _)
  have HD : Hid (Blk W0 w.heap.size #[.int .i64 c.k, .int .i64 c.ak, .int .i64 c.ek, .int .i64 c.ec, .int .i64 c.es, .string c.sql, .slice pa c.ps.length pc, .int .i64 c.n, .bool c.log, .slice ca c.ch.length cc, .int .i64 c.conn, .slice ta c.told.length tc] 47) := Lib.hid (by rw [← hW0]; exact Blk.new _ _ _)
  have HE := Lib.hid (hE.below HB.out)
  have HI0 := Lib.hid (HI.out.below HB.out)
  have HC := Lib.hid (fun v w' h => copied32_any v c hf w' h)
  have hS := fun v w' hE h => sprint_any v c hf w' hE h
  rw [printV_eq] at hS
  clear hE HI
  rcases printS_cases c with ⟨h1, h2⟩ | h1
  · rw [h1] at hS
    simp only at hS
    have HS0 := Lib.hid hS
    have hQ := fun w' hE => parse_any (lineS c) (by have := lineS_len hf; omega) w' hE
    rw [h2] at hQ
    have HQ := Lib.hid hQ
    have HM := Lib.hid (fun u v w' h h' => rsame_any u v c c hf.len hf.len w' h h')
    rw [sameC_self] at HM
    generalize lineS c = x at HS0 HQ
    clear hS hQ h1 h2 hf
    go_enter Tryz.func8, Tryz.ntmps8
    go_upto_region 6 with (first
      | (go_at_call 18; refine (head32_any _ HE.out).mono ?_; rintro e w1 ⟨rfl, hb1⟩; have HB1 := Lib.hid (bthn HB.out hb1); have HE1 := Lib.hid (HE.out.below hb1); have HI1 := Lib.hid (HI0.out.below hb1); obtain ⟨a0, a1, a2, a3, a4, a5, a6, a7, a8, a9, a10, a11⟩ := Blk.c12 (Blk.below HD.out hb1))
      | (go_at_call 21; refine (HC.out _ _ HI1.out).mono ?_; rintro e w2 ⟨v2, rfl, hown, hb2⟩; have HI2 := Lib.hid hown.is; clear hown)
      | (go_at_call 20; refine (HS0.out _ _ (HE1.out.below hb2) HI2.out).mono ?_; rintro e w3 ⟨rfl, hb3⟩; have hb13 := bthn hb2 hb3; have HB3 := Lib.hid (bthn HB1.out hb13); have HE3 := Lib.hid (HE1.out.below hb13))
      | (go_at_call 16; refine (HQ.out _ HE3.out).mono ?_; rintro e w4 ⟨v4, rfl, hown, hb4⟩; have HI4 := Lib.hid hown.is; obtain ⟨qv, rv, tv, xs, hve, ho1, ho2, ho3, htr⟩ := hown; obtain ⟨qa, qc, hpv, -, -, -⟩ := own_form ho1; obtain ⟨da, dc, hcv, -, -, -⟩ := own_form ho2; obtain ⟨sa, sc, htv, -, -, -⟩ := own_form ho3; subst hpv hcv htv; unfold C.val cmdV at hve; subst hve; clear ho1 ho2 ho3 htr))
    generalize hW4 : w4.alloc (Obj.cells #[.int .i64 c.k, .int .i64 c.ak, .int .i64 c.ek, .int .i64 c.ec, .int .i64 c.es, .string c.sql, .slice qa c.ps.length qc, .int .i64 c.n, .bool c.log, .slice da c.ch.length dc, .int .i64 c.conn, .slice sa c.told.length sc] 47) = W4
    have hba : Below w4.heap.size w4 W4 := by rw [← hW4]; exact below_alloc _ _
    have HB4 : Hid (Below w.heap.size w W4) := Lib.hid (bthn (bthn HB3.out hb4) hba)
    have HE4 : Hid (Env W4) := Lib.hid (HE3.out.below (bthn hb4 hba))
    have HD4 : Hid (Blk W4 w4.heap.size #[.int .i64 c.k, .int .i64 c.ak, .int .i64 c.ek, .int .i64 c.ec, .int .i64 c.es, .string c.sql, .slice qa c.ps.length qc, .int .i64 c.n, .bool c.log, .slice da c.ch.length dc, .int .i64 c.conn, .slice sa c.told.length sc] 47) := Lib.hid (by rw [← hW4]; exact Blk.new _ _ _)
    have HI5 : Hid (IsC W4 (.agg #[.int .i64 c.k, .int .i64 c.ak, .int .i64 c.ek, .int .i64 c.ec, .int .i64 c.es, .string c.sql, .slice qa c.ps.length qc, .int .i64 c.n, .bool c.log, .slice da c.ch.length dc, .int .i64 c.conn, .slice sa c.told.length sc]) c) := Lib.hid (HI4.out.below hba)
    have h14 := bthn hb13 (bthn hb4 hba)
    have HI6 : Hid (IsC W4 (.agg #[.int .i64 c.k, .int .i64 c.ak, .int .i64 c.ek, .int .i64 c.ec, .int .i64 c.es, .string c.sql, .slice pa c.ps.length pc, .int .i64 c.n, .bool c.log, .slice ca c.ch.length cc, .int .i64 c.conn, .slice ta c.told.length tc]) c) := Lib.hid (HI1.out.below h14)
    clear a0 a1 a2 a3 a4 a5 a6 a7 a8 a9 a10 a11
    obtain ⟨a0, a1, a2, a3, a4, a5, a6, a7, a8, a9, a10, a11⟩ := Blk.c12 (Blk.below (Blk.below HD.out hb1) h14)
    obtain ⟨u0, u1, u2, u3, u4, u5, u6, u7, u8, u9, u10, u11⟩ := Blk.c12 HD4.out
    clear hW4 hba h14 hb1 hb2 hb3 hb13 hb4 HI1 HI2 HI4 HC HS0 HQ
    go_upto_region 8 with (go_at_call 19; refine (HM.out _ _ _ HI6.out HI5.out).mono ?_; rintro e w5 ⟨rfl, hb5⟩)
    have HBb := Lib.hid (bthn HB4.out hb5)
    have HEb := Lib.hid (HE4.out.below hb5)
    clear hb5 a0 a1 a2 a3 a4 a5 a6 a7 a8 a9 a10 a11 u0 u1 u2 u3 u4 u5 u6 u7 u8 u9 u10 u11 HI5 HI6 HM HB4 HE4 HD4 HB3 HE3 HE1 HB1
    cases ho : parseS l with
    | error n2 =>
      have hn := parse_err ho
      have hn2 : (n2 != 0) = true := by simp [hn]
      have hL := fun w' hE => parse_any l (by omega) w' hE
      rw [ho] at hL
      have HL := Lib.hid hL
      have HS := Lib.hid (fun w' => rsame_any (.agg #[.int .i64 0, .int .i64 0, .int .i64 0, .int .i64 0, .int .i64 0, .string ⟨#[]⟩, .slice none 0 0, .int .i64 0, .bool false, .slice none 0 0, .int .i64 0, .slice none 0 0]) (.agg #[.int .i64 0, .int .i64 0, .int .i64 0, .int .i64 0, .int .i64 0, .string ⟨#[]⟩, .slice none 0 0, .int .i64 0, .bool false, .slice none 0 0, .int .i64 0, .slice none 0 0]) C.zero C.zero LenC.zero_ LenC.zero_ w' (OwnC.zero w' 0).is (OwnC.zero w' 0).is)
      rw [sameC_self] at HS
      clear ho hL
      go_upto_region 9 with (go_at_call 16; refine (HL.out _ HEb.out).mono ?_; rintro e w5 ⟨rfl, hb5⟩)
      generalize hW6 : w5.alloc (Obj.cells #[.int .i64 0, .int .i64 0, .int .i64 0, .int .i64 0, .int .i64 0, .string ⟨#[]⟩, .slice none 0 0, .int .i64 0, .bool false, .slice none 0 0, .int .i64 0, .slice none 0 0] 47) = W6
      have HB6 : Hid (Below w.heap.size w W6) := Lib.hid (by rw [← hW6]; exact bthn (bthn HBb.out hb5) (below_alloc _ _))
      have HD6 : Hid (Blk W6 w5.heap.size #[.int .i64 0, .int .i64 0, .int .i64 0, .int .i64 0, .int .i64 0, .string ⟨#[]⟩, .slice none 0 0, .int .i64 0, .bool false, .slice none 0 0, .int .i64 0, .slice none 0 0] 47) := Lib.hid (by rw [← hW6]; exact Blk.new _ _ _)
      clear hW6 hb5 HL
      obtain ⟨u0, u1, u2, u3, u4, u5, u6, u7, u8, u9, u10, u11⟩ := Blk.c12 HD6.out
      go_wp2_with (go_at_call 19; refine (HS.out _).mono ?_; rintro e w7 ⟨rfl, hb7⟩)
      go_ret
      exact ⟨rfl, bthn HB6.out hb7⟩
    | ok d =>
      have hL := fun w' hE => parse_any l (by omega) w' hE
      rw [ho] at hL
      have HL := Lib.hid hL
      have hP := fun v w' hE h => sprint_any v d (parse_fit ho hl).1 w' hE h
      rw [printV_eq, print_parse ho] at hP
      simp only at hP
      have HP := Lib.hid hP
      clear ho hL hP
      go_upto_region 9 with (go_at_call 16; refine (HL.out _ HEb.out).mono ?_; rintro e w5 ⟨v5, rfl, hown, hb5⟩; have HI5 := Lib.hid hown.is; obtain ⟨qv, rv, tv, xs, hve, ho1, ho2, ho3, htr⟩ := hown; obtain ⟨qa, qc, hpv, -, -, -⟩ := own_form ho1; obtain ⟨da, dc, hcv, -, -, -⟩ := own_form ho2; obtain ⟨sa, sc, htv, -, -, -⟩ := own_form ho3; subst hpv hcv htv; unfold C.val cmdV at hve; subst hve; clear ho1 ho2 ho3 htr)
      generalize hW6 : w5.alloc (Obj.cells #[.int .i64 d.k, .int .i64 d.ak, .int .i64 d.ek, .int .i64 d.ec, .int .i64 d.es, .string d.sql, .slice qa d.ps.length qc, .int .i64 d.n, .bool d.log, .slice da d.ch.length dc, .int .i64 d.conn, .slice sa d.told.length sc] 47) = W6
      have HB6 : Hid (Below w.heap.size w W6) := Lib.hid (by rw [← hW6]; exact bthn (bthn HBb.out hb5) (below_alloc _ _))
      have HE6 : Hid (Env W6) := Lib.hid (HEb.out.below (bthn hb5 (by rw [← hW6]; exact below_alloc _ _)))
      have HD6 : Hid (Blk W6 w5.heap.size #[.int .i64 d.k, .int .i64 d.ak, .int .i64 d.ek, .int .i64 d.ec, .int .i64 d.es, .string d.sql, .slice qa d.ps.length qc, .int .i64 d.n, .bool d.log, .slice da d.ch.length dc, .int .i64 d.conn, .slice sa d.told.length sc] 47) := Lib.hid (by rw [← hW6]; exact Blk.new _ _ _)
      have HI6 : Hid (IsC W6 (.agg #[.int .i64 d.k, .int .i64 d.ak, .int .i64 d.ek, .int .i64 d.ec, .int .i64 d.es, .string d.sql, .slice qa d.ps.length qc, .int .i64 d.n, .bool d.log, .slice da d.ch.length dc, .int .i64 d.conn, .slice sa d.told.length sc]) d) := Lib.hid (HI5.out.below (by rw [← hW6]; exact below_alloc _ _))
      clear hW6 hb5 HL HI5
      obtain ⟨u0, u1, u2, u3, u4, u5, u6, u7, u8, u9, u10, u11⟩ := Blk.c12 HD6.out
      go_wp2_with (go_at_call 20; refine (HP.out _ _ HE6.out HI6.out).mono ?_; rintro e w7 ⟨rfl, hb7⟩)
      go_ret
      exact ⟨rfl, bthn HB6.out hb7⟩
  · rw [h1] at hS
    simp only at hS
    have HS0 := Lib.hid hS
    clear hS h1 hf
    go_enter Tryz.func8, Tryz.ntmps8
    go_upto_region 8 with (first
      | (go_at_call 18; refine (head32_any _ HE.out).mono ?_; rintro e w1 ⟨rfl, hb1⟩; have HB1 := Lib.hid (bthn HB.out hb1); have HE1 := Lib.hid (HE.out.below hb1); have HI1 := Lib.hid (HI0.out.below hb1); obtain ⟨a0, a1, a2, a3, a4, a5, a6, a7, a8, a9, a10, a11⟩ := Blk.c12 (Blk.below HD.out hb1))
      | (go_at_call 21; refine (HC.out _ _ HI1.out).mono ?_; rintro e w2 ⟨v2, rfl, hown, hb2⟩; have HI2 := Lib.hid hown.is; clear hown)
      | (go_at_call 20; refine (HS0.out _ _ (HE1.out.below hb2) HI2.out).mono ?_; rintro e w3 ⟨rfl, hb3⟩; have hb13 := bthn hb2 hb3; have HB3 := Lib.hid (bthn HB1.out hb13); have HE3 := Lib.hid (HE1.out.below hb13)))
    have HBb := HB3
    have HEb := HE3
    clear a0 a1 a2 a3 a4 a5 a6 a7 a8 a9 a10 a11 hb1 hb2 hb3 hb13 HI1 HI2 HC HS0
    cases ho : parseS l with
    | error n2 =>
      have hn := parse_err ho
      have hn2 : (n2 != 0) = true := by simp [hn]
      have hL := fun w' hE => parse_any l (by omega) w' hE
      rw [ho] at hL
      have HL := Lib.hid hL
      have HS := Lib.hid (fun w' => rsame_any (.agg #[.int .i64 0, .int .i64 0, .int .i64 0, .int .i64 0, .int .i64 0, .string ⟨#[]⟩, .slice none 0 0, .int .i64 0, .bool false, .slice none 0 0, .int .i64 0, .slice none 0 0]) (.agg #[.int .i64 0, .int .i64 0, .int .i64 0, .int .i64 0, .int .i64 0, .string ⟨#[]⟩, .slice none 0 0, .int .i64 0, .bool false, .slice none 0 0, .int .i64 0, .slice none 0 0]) C.zero C.zero LenC.zero_ LenC.zero_ w' (OwnC.zero w' 0).is (OwnC.zero w' 0).is)
      rw [sameC_self] at HS
      clear ho hL
      go_upto_region 9 with (go_at_call 16; refine (HL.out _ HEb.out).mono ?_; rintro e w5 ⟨rfl, hb5⟩)
      generalize hW6 : w5.alloc (Obj.cells #[.int .i64 0, .int .i64 0, .int .i64 0, .int .i64 0, .int .i64 0, .string ⟨#[]⟩, .slice none 0 0, .int .i64 0, .bool false, .slice none 0 0, .int .i64 0, .slice none 0 0] 47) = W6
      have HB6 : Hid (Below w.heap.size w W6) := Lib.hid (by rw [← hW6]; exact bthn (bthn HBb.out hb5) (below_alloc _ _))
      have HD6 : Hid (Blk W6 w5.heap.size #[.int .i64 0, .int .i64 0, .int .i64 0, .int .i64 0, .int .i64 0, .string ⟨#[]⟩, .slice none 0 0, .int .i64 0, .bool false, .slice none 0 0, .int .i64 0, .slice none 0 0] 47) := Lib.hid (by rw [← hW6]; exact Blk.new _ _ _)
      clear hW6 hb5 HL
      obtain ⟨u0, u1, u2, u3, u4, u5, u6, u7, u8, u9, u10, u11⟩ := Blk.c12 HD6.out
      go_wp2_with (go_at_call 19; refine (HS.out _).mono ?_; rintro e w7 ⟨rfl, hb7⟩)
      go_ret
      exact ⟨rfl, bthn HB6.out hb7⟩
    | ok d =>
      have hL := fun w' hE => parse_any l (by omega) w' hE
      rw [ho] at hL
      have HL := Lib.hid hL
      have hP := fun v w' hE h => sprint_any v d (parse_fit ho hl).1 w' hE h
      rw [printV_eq, print_parse ho] at hP
      simp only at hP
      have HP := Lib.hid hP
      clear ho hL hP
      go_upto_region 9 with (go_at_call 16; refine (HL.out _ HEb.out).mono ?_; rintro e w5 ⟨v5, rfl, hown, hb5⟩; have HI5 := Lib.hid hown.is; obtain ⟨qv, rv, tv, xs, hve, ho1, ho2, ho3, htr⟩ := hown; obtain ⟨qa, qc, hpv, -, -, -⟩ := own_form ho1; obtain ⟨da, dc, hcv, -, -, -⟩ := own_form ho2; obtain ⟨sa, sc, htv, -, -, -⟩ := own_form ho3; subst hpv hcv htv; unfold C.val cmdV at hve; subst hve; clear ho1 ho2 ho3 htr)
      generalize hW6 : w5.alloc (Obj.cells #[.int .i64 d.k, .int .i64 d.ak, .int .i64 d.ek, .int .i64 d.ec, .int .i64 d.es, .string d.sql, .slice qa d.ps.length qc, .int .i64 d.n, .bool d.log, .slice da d.ch.length dc, .int .i64 d.conn, .slice sa d.told.length sc] 47) = W6
      have HB6 : Hid (Below w.heap.size w W6) := Lib.hid (by rw [← hW6]; exact bthn (bthn HBb.out hb5) (below_alloc _ _))
      have HE6 : Hid (Env W6) := Lib.hid (HEb.out.below (bthn hb5 (by rw [← hW6]; exact below_alloc _ _)))
      have HD6 : Hid (Blk W6 w5.heap.size #[.int .i64 d.k, .int .i64 d.ak, .int .i64 d.ek, .int .i64 d.ec, .int .i64 d.es, .string d.sql, .slice qa d.ps.length qc, .int .i64 d.n, .bool d.log, .slice da d.ch.length dc, .int .i64 d.conn, .slice sa d.told.length sc] 47) := Lib.hid (by rw [← hW6]; exact Blk.new _ _ _)
      have HI6 : Hid (IsC W6 (.agg #[.int .i64 d.k, .int .i64 d.ak, .int .i64 d.ek, .int .i64 d.ec, .int .i64 d.es, .string d.sql, .slice qa d.ps.length qc, .int .i64 d.n, .bool d.log, .slice da d.ch.length dc, .int .i64 d.conn, .slice sa d.told.length sc]) d) := Lib.hid (HI5.out.below (by rw [← hW6]; exact below_alloc _ _))
      clear hW6 hb5 HL HI5
      obtain ⟨u0, u1, u2, u3, u4, u5, u6, u7, u8, u9, u10, u11⟩ := Blk.c12 HD6.out
      go_wp2_with (go_at_call 20; refine (HP.out _ _ HE6.out HI6.out).mono ?_; rintro e w7 ⟨rfl, hb7⟩)
      go_ret
      exact ⟨rfl, bthn HB6.out hb7⟩
end Go.Proofs.YtkkildkleleppaaGreatDoor
