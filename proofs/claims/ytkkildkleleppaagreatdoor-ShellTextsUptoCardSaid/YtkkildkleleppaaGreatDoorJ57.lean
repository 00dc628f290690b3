/- The law walked: bureaulaw32.ShellTexts. -/
import Derived.Test.YtkkildkleleppaaGreatDoorJ55
import Derived.Test.YtkkildkleleppaaGreatDoorJ56
import Derived.Test.YtkkildkleleppaaGreatDoorJ49
namespace Go.Proofs.YtkkildkleleppaaGreatDoor
open Go.RowKit

theorem Blk.c6_ {w : World} {p : Nat} {T : TypeId} {a0 a1 a2 a3 a4 a5 : Value} (h : Blk w p #[a0, a1, a2, a3, a4, a5] T) : w.cell? ⟨p, 0, none⟩ = some a0 ∧ w.cell? ⟨p, 1, none⟩ = some a1 ∧ w.cell? ⟨p, 2, none⟩ = some a2 ∧ w.cell? ⟨p, 3, none⟩ = some a3 ∧ w.cell? ⟨p, 4, none⟩ = some a4 ∧ w.cell? ⟨p, 5, none⟩ = some a5 :=
  ⟨Blk.cell h 0, Blk.cell h 1, Blk.cell h 2, Blk.cell h 3, Blk.cell h 4, Blk.cell h 5⟩
set_option maxRecDepth 100000 in
set_option maxHeartbeats 4000000 in
theorem stexts_any (v u : Value) (c : C) (a : A) (hf : FitC c) (hg : FitA a) (w : World) (hE : Env w) (h : IsC w v c) (ha : IsA w u a) : Calls Tryz.prog 7 #[v, u] w (Ret w (.bool true)) := by
  have HI := Lib.hid h
  have HJ := Lib.hid ha
  obtain ⟨pa, pc, ca, cc, ta, tc, hv, -⟩ := h
  obtain ⟨na, nc, ra, rc, hu, -⟩ := ha
  unfold C.val cmdV at hv
  subst hv hu
  obtain ⟨W0, hW0⟩ : ∃ W0, (w.alloc (.cells #[.int .i64 c.k, .int .i64 c.ak, .int .i64 c.ek, .int .i64 c.ec, .int .i64 c.es, .string c.sql, .slice pa c.ps.length pc, .int .i64 c.n, .bool c.log, .slice ca c.ch.length cc, .int .i64 c.conn, .slice ta c.told.length tc] 47)).alloc (.cells #[.int .i64 a.err, .int .i64 a.place, .bool a.is, .slice na a.names.length nc, .slice ra a.rows.length rc, .int .i64 a.ch] 62) = W0 := ⟨_, rfl⟩
  have hs1 : (w.alloc (Obj.cells #[.int .i64 c.k, .int .i64 c.ak, .int .i64 c.ek, .int .i64 c.ec, .int .i64 c.es, .string c.sql, .slice pa c.ps.length pc, .int .i64 c.n, .bool c.log, .slice ca c.ch.length cc, .int .i64 c.conn, .slice ta c.told.length tc] 47)).heap.size = w.heap.size + 1 := by simp
  have HA : Hid (Blk W0 w.heap.size #[.int .i64 c.k, .int .i64 c.ak, .int .i64 c.ek, .int .i64 c.ec, .int .i64 c.es, .string c.sql, .slice pa c.ps.length pc, .int .i64 c.n, .bool c.log, .slice ca c.ch.length cc, .int .i64 c.conn, .slice ta c.told.length tc] 47) := Lib.hid (by rw [← hW0]; exact Blk.alloc (Blk.new _ _ _) _)
  have HD : Hid (Blk W0 (w.heap.size + 1) #[.int .i64 a.err, .int .i64 a.place, .bool a.is, .slice na a.names.length nc, .slice ra a.rows.length rc, .int .i64 a.ch] 62) := Lib.hid (by rw [← hW0]; have := Blk.new (w.alloc (Obj.cells #[.int .i64 c.k, .int .i64 c.ak, .int .i64 c.ek, .int .i64 c.ec, .int .i64 c.es, .string c.sql, .slice pa c.ps.length pc, .int .i64 c.n, .bool c.log, .slice ca c.ch.length cc, .int .i64 c.conn, .slice ta c.told.length tc] 47)) #[.int .i64 a.err, .int .i64 a.place, .bool a.is, .slice na a.names.length nc, .slice ra a.rows.length rc, .int .i64 a.ch] 62; rw [hs1] at this; exact this)
  have HB : Hid (Below w.heap.size w W0) := Lib.hid (by rw [← hW0]; exact (below_alloc _ _).alloc (by simp) _)
  have HE := Lib.hid (hE.below HB.out)
  have HI0 := Lib.hid (HI.out.below HB.out)
  have HJ0 := Lib.hid (HJ.out.below HB.out)
  have HC := Lib.hid (fun v w' h => copied32_any v c hf w' h)
  have HS := Lib.hid (fun v u w' hE h ha => stext_any v u c a hg w' hE h ha)
  have HR := Lib.hid (fun v u w' hE h ha => rtext_any v u c a hg w' hE h ha)
  generalize textA c a = x at HS HR
  clear hs1 hE hf hg HI HJ
  go_enter Tryz.func7, Tryz.ntmps7
  go_wp2_with fail
  refine wp_region_held_drew (S := fun w' => Blk w' w.heap.size #[.int .i64 c.k, .int .i64 c.ak, .int .i64 c.ek, .int .i64 c.ec, .int .i64 c.es, .string c.sql, .slice pa c.ps.length pc, .int .i64 c.n, .bool c.log, .slice ca c.ch.length cc, .int .i64 c.conn, .slice ta c.told.length tc] 47 ∧ Blk w' (w.heap.size + 1) #[.int .i64 a.err, .int .i64 a.place, .bool a.is, .slice na a.names.length nc, .slice ra a.rows.length rc, .int .i64 a.ch] 62) (by kernel_rfl) ⟨HA.out, HD.out⟩ (fun hHeld => ?_)
  refine wpAnyH_ready (rs := [0]) (by kernel_rfl) (by simp) (AllReadyH.cons rfl (fun K' hK => ?_) AllReadyH.nil)
  go_simp
  refine (head32_any _ (HE.out.below (below_drew (Below.refl _ _)))).mono ?_
  rintro e w1 ⟨rfl, hb1'⟩
  have hb1 : Below W0.heap.size W0 w1 := (below_drew (Below.refl _ _)).trans hb1'
  try go_simp
  refine hK.out _ _ ⟨Blk.below HA.out hb1, Blk.below HD.out hb1⟩ (fun hHeld1 => ?_)
  clear hK K' hb1'
  (refine wpAnyH_take (i := 1) (v := (.bool true)) rfl (by kernel_rfl) (by kernel_rfl) (by kernel_rfl) (fun _ _ _ h => h) (Or.inl ⟨by rfl, by intro w hSw; obtain ⟨y0, y1, y2, y3, y4, y5, y6, y7, y8, y9, y10, y11⟩ := Blk.c12 hSw.1; obtain ⟨z0, z1, z2, z3, z4, z5⟩ := Blk.c6_ hSw.2; clear hSw; go_simp; try with_reducible rfl⟩) (by assumption) ?_; simp only [List.getElem_toArray, List.getElem_cons_succ, List.getElem_cons_zero, Act.put, List.setIfInBounds_toArray, List.set_cons_succ, List.set_cons_zero])
  (refine wpAnyH_take (i := 2) (v := (.agg #[.int .i64 c.k, .int .i64 c.ak, .int .i64 c.ek, .int .i64 c.ec, .int .i64 c.es, .string c.sql, .slice pa c.ps.length pc, .int .i64 c.n, .bool c.log, .slice ca c.ch.length cc, .int .i64 c.conn, .slice ta c.told.length tc])) rfl (by kernel_rfl) (by kernel_rfl) (by kernel_rfl) (fun _ _ _ h => h) (Or.inl ⟨by rfl, by intro w hSw; obtain ⟨y0, y1, y2, y3, y4, y5, y6, y7, y8, y9, y10, y11⟩ := Blk.c12 hSw.1; obtain ⟨z0, z1, z2, z3, z4, z5⟩ := Blk.c6_ hSw.2; clear hSw; go_simp; try with_reducible rfl⟩) (by assumption) ?_; simp only [List.getElem_toArray, List.getElem_cons_succ, List.getElem_cons_zero, Act.put, List.setIfInBounds_toArray, List.set_cons_succ, List.set_cons_zero])
  (refine wpAnyH_take (i := 4) (v := (.agg #[.int .i64 a.err, .int .i64 a.place, .bool a.is, .slice na a.names.length nc, .slice ra a.rows.length rc, .int .i64 a.ch])) rfl (by kernel_rfl) (by kernel_rfl) (by kernel_rfl) (fun _ _ _ h => h) (Or.inl ⟨by rfl, by intro w hSw; obtain ⟨y0, y1, y2, y3, y4, y5, y6, y7, y8, y9, y10, y11⟩ := Blk.c12 hSw.1; obtain ⟨z0, z1, z2, z3, z4, z5⟩ := Blk.c6_ hSw.2; clear hSw; go_simp; try with_reducible rfl⟩) (by assumption) ?_; simp only [List.getElem_toArray, List.getElem_cons_succ, List.getElem_cons_zero, Act.put, List.setIfInBounds_toArray, List.set_cons_succ, List.set_cons_zero])
  (refine wpAnyH_take (i := 6) (v := (.agg #[.int .i64 c.k, .int .i64 c.ak, .int .i64 c.ek, .int .i64 c.ec, .int .i64 c.es, .string c.sql, .slice pa c.ps.length pc, .int .i64 c.n, .bool c.log, .slice ca c.ch.length cc, .int .i64 c.conn, .slice ta c.told.length tc])) rfl (by kernel_rfl) (by kernel_rfl) (by kernel_rfl) (fun _ _ _ h => h) (Or.inl ⟨by rfl, by intro w hSw; obtain ⟨y0, y1, y2, y3, y4, y5, y6, y7, y8, y9, y10, y11⟩ := Blk.c12 hSw.1; obtain ⟨z0, z1, z2, z3, z4, z5⟩ := Blk.c6_ hSw.2; clear hSw; go_simp; try with_reducible rfl⟩) (by assumption) ?_; simp only [List.getElem_toArray, List.getElem_cons_succ, List.getElem_cons_zero, Act.put, List.setIfInBounds_toArray, List.set_cons_succ, List.set_cons_zero])
  (refine wpAnyH_take (i := 7) (v := (.agg #[.int .i64 a.err, .int .i64 a.place, .bool a.is, .slice na a.names.length nc, .slice ra a.rows.length rc, .int .i64 a.ch])) rfl (by kernel_rfl) (by kernel_rfl) (by kernel_rfl) (fun _ _ _ h => h) (Or.inl ⟨by rfl, by intro w hSw; obtain ⟨y0, y1, y2, y3, y4, y5, y6, y7, y8, y9, y10, y11⟩ := Blk.c12 hSw.1; obtain ⟨z0, z1, z2, z3, z4, z5⟩ := Blk.c6_ hSw.2; clear hSw; go_simp; try with_reducible rfl⟩) (by assumption) ?_; simp only [List.getElem_toArray, List.getElem_cons_succ, List.getElem_cons_zero, Act.put, List.setIfInBounds_toArray, List.set_cons_succ, List.set_cons_zero])
  refine wpAnyH_ready (rs := [3]) (by kernel_rfl) (by simp) (AllReadyH.cons rfl (fun K' hK => ?_) AllReadyH.nil)
  go_simp
  refine (HC.out _ _ (HI0.out.below hb1)).mono ?_
  rintro e w2 ⟨v1, rfl, hown, hb2'⟩
  have hb2 := bthn hb1 hb2'
  try go_simp
  refine hK.out _ _ ⟨Blk.below HA.out hb2, Blk.below HD.out hb2⟩ (fun hHeld2 => ?_)
  clear hK K' hb2'
  refine wpAnyH_ready (rs := [5]) (by kernel_rfl) (by simp) (AllReadyH.cons rfl (fun K' hK => ?_) AllReadyH.nil)
  go_simp
  refine (HS.out _ _ _ (HE.out.below hb2) hown.is (HJ0.out.below hb2)).mono ?_
  rintro e w3 ⟨rfl, hb3'⟩
  have hb3 := bthn hb2 hb3'
  try go_simp
  refine hK.out _ _ ⟨Blk.below HA.out hb3, Blk.below HD.out hb3⟩ (fun hHeld3 => ?_)
  clear hK K' hb3'
  refine wpAnyH_ready (rs := [8]) (by kernel_rfl) (by simp) (AllReadyH.cons rfl (fun K' hK => ?_) AllReadyH.nil)
  go_simp
  refine (HR.out _ _ _ (HE.out.below hb3) (HI0.out.below hb3) (HJ0.out.below hb3)).mono ?_
  rintro e w4 ⟨rfl, hb4'⟩
  have hb4 := bthn hb3 hb4'
  try go_simp
  refine hK.out _ _ ⟨Blk.below HA.out hb4, Blk.below HD.out hb4⟩ (fun hHeld4 => ?_)
  clear hK K' hb4'
  (refine wpAnyH_take (i := 9) (v := (.bool true)) rfl (by kernel_rfl) (by kernel_rfl) (by kernel_rfl) (fun _ _ _ h => h) (Or.inl ⟨by rfl, by intro w hSw; obtain ⟨y0, y1, y2, y3, y4, y5, y6, y7, y8, y9, y10, y11⟩ := Blk.c12 hSw.1; obtain ⟨z0, z1, z2, z3, z4, z5⟩ := Blk.c6_ hSw.2; clear hSw; go_simp; try with_reducible rfl⟩) (by assumption) ?_; simp only [List.getElem_toArray, List.getElem_cons_succ, List.getElem_cons_zero, Act.put, List.setIfInBounds_toArray, List.set_cons_succ, List.set_cons_zero])
  (refine wpAnyH_take (i := 10) (v := (.bool true)) rfl (by kernel_rfl) (by kernel_rfl) (by kernel_rfl) (fun _ _ _ h => h) (Or.inl ⟨by rfl, by intro w hSw; obtain ⟨y0, y1, y2, y3, y4, y5, y6, y7, y8, y9, y10, y11⟩ := Blk.c12 hSw.1; obtain ⟨z0, z1, z2, z3, z4, z5⟩ := Blk.c6_ hSw.2; clear hSw; go_simp; try with_reducible rfl⟩) (by assumption) ?_; simp only [List.getElem_toArray, List.getElem_cons_succ, List.getElem_cons_zero, Act.put, List.setIfInBounds_toArray, List.set_cons_succ, List.set_cons_zero])
  (refine wpAnyH_take (i := 11) (v := (.bool true)) rfl (by kernel_rfl) (by kernel_rfl) (by kernel_rfl) (fun _ _ _ h => h) (Or.inl ⟨by rfl, by intro w hSw; obtain ⟨y0, y1, y2, y3, y4, y5, y6, y7, y8, y9, y10, y11⟩ := Blk.c12 hSw.1; obtain ⟨z0, z1, z2, z3, z4, z5⟩ := Blk.c6_ hSw.2; clear hSw; go_simp; try with_reducible rfl⟩) (by assumption) ?_; simp only [List.getElem_toArray, List.getElem_cons_succ, List.getElem_cons_zero, Act.put, List.setIfInBounds_toArray, List.set_cons_succ, List.set_cons_zero])
  refine wpAnyH_done (by kernel_rfl) ?_ _
  go_wp2
  go_ret
  exact ⟨rfl, bthn HB.out hb4⟩
end Go.Proofs.YtkkildkleleppaaGreatDoor
