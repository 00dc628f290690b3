/- The document's Parse. The law walked: bureaulaw32.ShellParses. -/
import Derived.Test.YtkkildkleleppaaGreatDoorJ41
import Derived.Test.YtkkildkleleppaaGreatDoorJ45
import Derived.Test.YtkkildkleleppaaGreatDoorJ46
import Derived.Test.YtkkildkleleppaaGreatDoorJ47
import Derived.Test.YtkkildkleleppaaGreatDoorJ37
namespace Go.Proofs.YtkkildkleleppaaGreatDoor
open Go.RowKit

/-- The document's Parse answers what a line is read as. -/
theorem rparse_any (l : List UInt8) (hl : l.length ≤ 100000000) (h16 : verbNo (cutX true false l).1 = some 16 → l.length ≤ 16777216) (w : World) (hE : Env w) : Calls Tryz.prog 17 #[.string ⟨l.toArray⟩] w (ParseE w (parseS l)) := by
  cases h : verbNo (cutX true false l).1 with
  | none => exact rparse_none l hl h w
  | some i =>
    have hi := (verbNo_some h).1
    obtain hi | rfl | rfl | rfl | rfl | rfl | rfl | rfl | rfl : i < 9 ∨ i = 9 ∨ i = 10 ∨ i = 11 ∨ i = 12 ∨ i = 13 ∨ i = 14 ∨ i = 15 ∨ i = 16 := by omega
    · exact rparse_event i hi l hl h w
    · exact rparse_plain 9 (by omega) l hl h w
    · exact rparse_plain 10 (by omega) l hl h w
    · exact rparse_crashin l hl h w
    · exact rparse_room l hl h w
    · exact rparse_restart l hl h w
    · exact rparse_plain 14 (by omega) l hl h w
    · exact rparse_plain 15 (by omega) l hl h w
    · exact rparse_load l (h16 h) h w hE
end Go.Proofs.YtkkildkleleppaaGreatDoor
namespace Go.Proofs.YtkkildkleleppaaGreatDoor
open Go.RowKit

theorem LenC.zero : LenC C.zero := ⟨by decide, by decide, by decide, by intro t ht; cases ht⟩
set_option maxRecDepth 100000 in
set_option maxHeartbeats 4000000 in
theorem parses_any (l : List UInt8) (hl : l.length ≤ 16777216) (w : World) (hE : Env w) : Calls Tryz.prog 5 #[.string ⟨l.toArray⟩] w (Ret w (.bool true)) := by
  have HE := Lib.hid hE
  have hP := fun w' hE => parse_any l (by omega) w' hE
  have hR := fun w' hE => rparse_any l (by omega) (fun _ => hl) w' hE
  cases ho : parseS l with
  | error n =>
    rw [ho] at hP hR
    have HP := Lib.hid hP
    have HR := Lib.hid hR
    have HS := Lib.hid (fun w' h h' => rsame_any (.agg #[.int .i64 0, .int .i64 0, .int .i64 0, .int .i64 0, .int .i64 0, .string ⟨#[]⟩, .slice none 0 0, .int .i64 0, .bool false, .slice none 0 0, .int .i64 0, .slice none 0 0]) (.agg #[.int .i64 0, .int .i64 0, .int .i64 0, .int .i64 0, .int .i64 0, .string ⟨#[]⟩, .slice none 0 0, .int .i64 0, .bool false, .slice none 0 0, .int .i64 0, .slice none 0 0]) C.zero C.zero LenC.zero LenC.zero w' h h')
    rw [sameC_self] at HS
    have HZ := Lib.hid (fun w' => (OwnC.zero w' 0).is)
    clear hP hR ho hE
    go_enter Tryz.func5, Tryz.ntmps5
    go_upto_region 3 with (first
      | (go_at_call 16; refine (HP.out _ HE.out).mono ?_; rintro e w1 ⟨rfl, hb1⟩)
      | (go_at_call 17; refine (HR.out _ (HE.out.below (bthn hb1 (below_alloc _ _)))).mono ?_; rintro e w2 ⟨rfl, hb2⟩))
    generalize hW1 : w1.alloc (Obj.cells #[.int .i64 0, .int .i64 0, .int .i64 0, .int .i64 0, .int .i64 0, .string ⟨#[]⟩, .slice none 0 0, .int .i64 0, .bool false, .slice none 0 0, .int .i64 0, .slice none 0 0] 47) = W1 at hb2 ⊢
    generalize hW3 : w2.alloc (Obj.cells #[.int .i64 0, .int .i64 0, .int .i64 0, .int .i64 0, .int .i64 0, .string ⟨#[]⟩, .slice none 0 0, .int .i64 0, .bool false, .slice none 0 0, .int .i64 0, .slice none 0 0] 47) = W3
    have HB3 : Hid (Below w.heap.size w W3) := Lib.hid (by rw [← hW3]; exact bthn (bthn (bthn hb1 (by rw [← hW1]; exact below_alloc _ _)) hb2) (below_alloc _ _))
    have HA3 : Hid (Blk W3 w1.heap.size #[.int .i64 0, .int .i64 0, .int .i64 0, .int .i64 0, .int .i64 0, .string ⟨#[]⟩, .slice none 0 0, .int .i64 0, .bool false, .slice none 0 0, .int .i64 0, .slice none 0 0] 47) := Lib.hid (by rw [← hW3]; exact Blk.alloc (Blk.below (by rw [← hW1]; exact Blk.new _ _ _) hb2) _)
    have HD3 : Hid (Blk W3 w2.heap.size #[.int .i64 0, .int .i64 0, .int .i64 0, .int .i64 0, .int .i64 0, .string ⟨#[]⟩, .slice none 0 0, .int .i64 0, .bool false, .slice none 0 0, .int .i64 0, .slice none 0 0] 47) := Lib.hid (by rw [← hW3]; exact Blk.new _ _ _)
    generalize w1.heap.size = p at HA3 ⊢
    generalize w2.heap.size = q at HD3 ⊢
    clear hW1 hW3 hb1 hb2 HP HR
    go_wp2_with (first
      | (go_at_call 18; refine (head32_any _ (HE.out.below HB3.out)).mono ?_; rintro e w4 ⟨rfl, hb4⟩; obtain ⟨u0, u1, u2, u3, u4, u5, u6, u7, u8, u9, u10, u11⟩ := Blk.c12 (Blk.below HA3.out hb4); obtain ⟨d0, d1, d2, d3, d4, d5, d6, d7, d8, d9, d10, d11⟩ := Blk.c12 (Blk.below HD3.out hb4))
      | (go_at_call 19; refine (HS.out _ (HZ.out _) (HZ.out _)).mono ?_; rintro e w5 ⟨rfl, hb5⟩))
    go_ret
    exact ⟨rfl, bthn (bthn HB3.out hb4) hb5⟩
  | ok c =>
    rw [ho] at hP hR
    have HP := Lib.hid hP
    have HR := Lib.hid hR
    have HL := Lib.hid (parse_len ho (by omega))
    have HS := Lib.hid (fun v u w' h h' => rsame_any v u c c HL.out HL.out w' h h')
    rw [sameC_self] at HS
    clear hP hR ho hE
    go_enter Tryz.func5, Tryz.ntmps5
    go_upto_region 3 with (first
      | (go_at_call 16; refine (HP.out _ HE.out).mono ?_; rintro e w1 ⟨v1, rfl, hown, hb1⟩; have HI1 := Lib.hid hown.is; obtain ⟨pv, rv, tv, xs, hve, ho1, ho2, ho3, htr⟩ := hown; obtain ⟨pa, pc, hpv, -, -, -⟩ := own_form ho1; obtain ⟨ca, cc, hcv, -, -, -⟩ := own_form ho2; obtain ⟨ta, tc, htv, -, -, -⟩ := own_form ho3; subst hpv hcv htv; unfold C.val cmdV at hve; subst hve; clear ho1 ho2 ho3 htr)
      | (go_at_call 17; refine (HR.out _ (HE.out.below (bthn hb1 (below_alloc _ _)))).mono ?_; rintro e w2 ⟨v2, rfl, hown, hb2⟩; have HI2 := Lib.hid hown.is; obtain ⟨pv, rv, tv, xs, hve, ho1, ho2, ho3, htr⟩ := hown; obtain ⟨qa, qc, hpv, -, -, -⟩ := own_form ho1; obtain ⟨da, dc, hcv, -, -, -⟩ := own_form ho2; obtain ⟨sa, sc, htv, -, -, -⟩ := own_form ho3; subst hpv hcv htv; unfold C.val cmdV at hve; subst hve; clear ho1 ho2 ho3 htr))
    generalize hW1 : w1.alloc (Obj.cells #[.int .i64 c.k, .int .i64 c.ak, .int .i64 c.ek, .int .i64 c.ec, .int .i64 c.es, .string c.sql, .slice pa c.ps.length pc, .int .i64 c.n, .bool c.log, .slice ca c.ch.length cc, .int .i64 c.conn, .slice ta c.told.length tc] 47) = W1 at hb2 ⊢
    generalize hW3 : w2.alloc (Obj.cells #[.int .i64 c.k, .int .i64 c.ak, .int .i64 c.ek, .int .i64 c.ec, .int .i64 c.es, .string c.sql, .slice qa c.ps.length qc, .int .i64 c.n, .bool c.log, .slice da c.ch.length dc, .int .i64 c.conn, .slice sa c.told.length sc] 47) = W3
    have HB3 : Hid (Below w.heap.size w W3) := Lib.hid (by rw [← hW3]; exact bthn (bthn (bthn hb1 (by rw [← hW1]; exact below_alloc _ _)) hb2) (below_alloc _ _))
    have HA3 : Hid (Blk W3 w1.heap.size #[.int .i64 c.k, .int .i64 c.ak, .int .i64 c.ek, .int .i64 c.ec, .int .i64 c.es, .string c.sql, .slice pa c.ps.length pc, .int .i64 c.n, .bool c.log, .slice ca c.ch.length cc, .int .i64 c.conn, .slice ta c.told.length tc] 47) := Lib.hid (by rw [← hW3]; exact Blk.alloc (Blk.below (by rw [← hW1]; exact Blk.new _ _ _) hb2) _)
    have HD3 : Hid (Blk W3 w2.heap.size #[.int .i64 c.k, .int .i64 c.ak, .int .i64 c.ek, .int .i64 c.ec, .int .i64 c.es, .string c.sql, .slice qa c.ps.length qc, .int .i64 c.n, .bool c.log, .slice da c.ch.length dc, .int .i64 c.conn, .slice sa c.told.length sc] 47) := Lib.hid (by rw [← hW3]; exact Blk.new _ _ _)
    have HX3 : Hid (IsC W3 (.agg #[.int .i64 c.k, .int .i64 c.ak, .int .i64 c.ek, .int .i64 c.ec, .int .i64 c.es, .string c.sql, .slice pa c.ps.length pc, .int .i64 c.n, .bool c.log, .slice ca c.ch.length cc, .int .i64 c.conn, .slice ta c.told.length tc]) c) := Lib.hid ((HI1.out.below (by rw [← hW1]; exact below_alloc _ _)).below (bthn hb2 (by rw [← hW3]; exact below_alloc _ _)))
    have HY3 : Hid (IsC W3 (.agg #[.int .i64 c.k, .int .i64 c.ak, .int .i64 c.ek, .int .i64 c.ec, .int .i64 c.es, .string c.sql, .slice qa c.ps.length qc, .int .i64 c.n, .bool c.log, .slice da c.ch.length dc, .int .i64 c.conn, .slice sa c.told.length sc]) c) := Lib.hid (HI2.out.below (by rw [← hW3]; exact below_alloc _ _))
    generalize w1.heap.size = p at HA3 ⊢
    generalize w2.heap.size = q at HD3 ⊢
    clear hW1 hW3 hb1 hb2 HP HR HI1 HI2
    go_wp2_with (first
      | (go_at_call 18; refine (head32_any _ (HE.out.below HB3.out)).mono ?_; rintro e w4 ⟨rfl, hb4⟩; obtain ⟨u0, u1, u2, u3, u4, u5, u6, u7, u8, u9, u10, u11⟩ := Blk.c12 (Blk.below HA3.out hb4); obtain ⟨d0, d1, d2, d3, d4, d5, d6, d7, d8, d9, d10, d11⟩ := Blk.c12 (Blk.below HD3.out hb4))
      | (go_at_call 19; refine (HS.out _ _ _ (HX3.out.below hb4) (HY3.out.below hb4)).mono ?_; rintro e w5 ⟨rfl, hb5⟩))
    go_ret
    exact ⟨rfl, bthn (bthn HB3.out hb4) hb5⟩
end Go.Proofs.YtkkildkleleppaaGreatDoor
