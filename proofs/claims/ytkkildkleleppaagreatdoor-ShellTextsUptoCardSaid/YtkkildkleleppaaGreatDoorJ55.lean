/- The shell's text of an answer. -/
import Derived.Test.YtkkildkleleppaaGreatDoorJ54
import Derived.Test.YtkkildkleleppaaGreatDoorJ37
namespace Go.Proofs.YtkkildkleleppaaGreatDoor
open Go.RowKit

set_option maxRecDepth 100000 in
set_option maxHeartbeats 4000000 in
/-- An error of a load. -/
theorem stext4 (v u : Value) (c : C) (a : A) (hf : FitA a) (h4 : c.k = 4) (he : a.err ≠ 0) (w : World) (hE : Env w) (h : IsC w v c) (ha : IsA w u a) : Calls Tryz.prog 23 #[v, u] w (Ret w (.string ⟨(textA c a).toArray⟩)) := by
  obtain ⟨pa, pc, ca, cc, ta, tc, hv, -⟩ := h
  obtain ⟨na, nc, ra, rc, hu, hnc, hrc, hns, hrs⟩ := ha
  unfold C.val cmdV at hv
  subst hv hu
  obtain ⟨W0, hW0⟩ : ∃ W0, (w.alloc (.cells #[.int .i64 c.k, .int .i64 c.ak, .int .i64 c.ek, .int .i64 c.ec, .int .i64 c.es, .string c.sql, .slice pa c.ps.length pc, .int .i64 c.n, .bool c.log, .slice ca c.ch.length cc, .int .i64 c.conn, .slice ta c.told.length tc] 47)).alloc (.cells #[.int .i64 a.err, .int .i64 a.place, .bool a.is, .slice na a.names.length nc, .slice ra a.rows.length rc, .int .i64 a.ch] 62) = W0 := ⟨_, rfl⟩
  have hs1 : (w.alloc (Obj.cells #[.int .i64 c.k, .int .i64 c.ak, .int .i64 c.ek, .int .i64 c.ec, .int .i64 c.es, .string c.sql, .slice pa c.ps.length pc, .int .i64 c.n, .bool c.log, .slice ca c.ch.length cc, .int .i64 c.conn, .slice ta c.told.length tc] 47)).heap.size = w.heap.size + 1 := by simp
  have hA : Blk W0 w.heap.size #[.int .i64 c.k, .int .i64 c.ak, .int .i64 c.ek, .int .i64 c.ec, .int .i64 c.es, .string c.sql, .slice pa c.ps.length pc, .int .i64 c.n, .bool c.log, .slice ca c.ch.length cc, .int .i64 c.conn, .slice ta c.told.length tc] 47 := by rw [← hW0]; exact Blk.alloc (Blk.new _ _ _) _
  have hB : Blk W0 (w.heap.size + 1) #[.int .i64 a.err, .int .i64 a.place, .bool a.is, .slice na a.names.length nc, .slice ra a.rows.length rc, .int .i64 a.ch] 62 := by rw [← hW0]; have := Blk.new (w.alloc (Obj.cells #[.int .i64 c.k, .int .i64 c.ak, .int .i64 c.ek, .int .i64 c.ec, .int .i64 c.es, .string c.sql, .slice pa c.ps.length pc, .int .i64 c.n, .bool c.log, .slice ca c.ch.length cc, .int .i64 c.conn, .slice ta c.told.length tc] 47)) #[.int .i64 a.err, .int .i64 a.place, .bool a.is, .slice na a.names.length nc, .slice ra a.rows.length rc, .int .i64 a.ch] 62; rw [hs1] at this; exact this
  have HB : Hid (Below w.heap.size w W0) := Lib.hid (by rw [← hW0]; exact (below_alloc _ _).alloc (by simp) _)
  have HE := Lib.hid (hE.below HB.out)
  have HNs := Lib.hid (hns.below HB.out)
  have HRs := Lib.hid (hrs.below HB.out)
  have HF := Lib.hid hf
  have a0 : W0.cell? ⟨w.heap.size, 0, none⟩ = some (.int .i64 c.k) := Blk.cell hA 0
  have a1 : W0.cell? ⟨w.heap.size, 1, none⟩ = some (.int .i64 c.ak) := Blk.cell hA 1
  have a2 : W0.cell? ⟨w.heap.size, 2, none⟩ = some (.int .i64 c.ek) := Blk.cell hA 2
  have b0 : W0.cell? ⟨w.heap.size + 1, 0, none⟩ = some (.int .i64 a.err) := Blk.cell hB 0
  have b1 : W0.cell? ⟨w.heap.size + 1, 1, none⟩ = some (.int .i64 a.place) := Blk.cell hB 1
  have b2 : W0.cell? ⟨w.heap.size + 1, 2, none⟩ = some (.bool a.is) := Blk.cell hB 2
  have b3 : W0.cell? ⟨w.heap.size + 1, 3, none⟩ = some (.slice na a.names.length nc) := Blk.cell hB 3
  have b4 : W0.cell? ⟨w.heap.size + 1, 4, none⟩ = some (.slice ra a.rows.length rc) := Blk.cell hB 4
  have b5 : W0.cell? ⟨w.heap.size + 1, 5, none⟩ = some (.int .i64 a.ch) := Blk.cell hB 5
  have HNC := Lib.hid hnc
  clear hA hB hs1 hE hns hrs hnc hrc hf
  have HX : Hid (textA c a = [101, 114, 114, 111, 114] ++ numT a.err ++ [32, 97, 116] ++ numT a.place ++ [10]) := Lib.hid (by unfold textA; rw [if_pos he, if_pos h4])
  have H1 := Lib.hid (fun w' hE => num_any a.err HF.out.err w' hE)
  have H2 := Lib.hid (fun w' hE => num_any a.place HF.out.place w' hE)
  have n1 := numT_len HF.out.err
  have n2 := numT_len HF.out.place
  have k2 : (a.err != 0) = true := by simp [he]
  rw [h4] at a0
  have B0 := Lib.hid b0
  have B1 := Lib.hid b1
  clear he h4 a1 a2 b2 b3 b4 b5
  go_enter Tryz.func23, Tryz.ntmps23
  go_wp2_with fail
  refine wp_region_held_drew (S := fun w' => w'.cell? ⟨w.heap.size + 1, 0, none⟩ = some (.int .i64 a.err) ∧ w'.cell? ⟨w.heap.size + 1, 1, none⟩ = some (.int .i64 a.place)) (by kernel_rfl) ⟨b0, b1⟩ (fun hHeld => ?_)
  (refine wpAnyH_take (i := 0) (v := (.pointer (some ⟨w.heap.size + 1, 0, none⟩))) rfl (by kernel_rfl) (by kernel_rfl) (by kernel_rfl) (fun _ _ _ h => h) (Or.inl ⟨by rfl, by intro w hSw; (try dsimp only at hSw); go_simp; try with_reducible rfl⟩) (by assumption) ?_; simp only [List.getElem_toArray, List.getElem_cons_zero, Act.put, List.setIfInBounds_toArray, List.set_cons_succ, List.set_cons_zero])
  (refine wpAnyH_take (i := 1) (v := (.int .i64 a.err)) rfl (by kernel_rfl) (by kernel_rfl) (by kernel_rfl) (fun _ _ _ h => h) (Or.inl ⟨by rfl, by intro w hSw; (try dsimp only at hSw); go_simp; (try with_reducible rfl); (try omega)⟩) (by assumption) ?_; simp only [List.getElem_toArray, List.getElem_cons_succ, List.getElem_cons_zero, Act.put, List.setIfInBounds_toArray, List.set_cons_succ, List.set_cons_zero])
  (refine wpAnyH_take (i := 5) (v := (.pointer (some ⟨w.heap.size + 1, 1, none⟩))) rfl (by kernel_rfl) (by kernel_rfl) (by kernel_rfl) (fun _ _ _ h => h) (Or.inl ⟨by rfl, by intro w hSw; (try dsimp only at hSw); go_simp; (try with_reducible rfl); (try omega)⟩) (by assumption) ?_; simp only [List.getElem_toArray, List.getElem_cons_succ, List.getElem_cons_zero, Act.put, List.setIfInBounds_toArray, List.set_cons_succ, List.set_cons_zero])
  (refine wpAnyH_take (i := 6) (v := (.int .i64 a.place)) rfl (by kernel_rfl) (by kernel_rfl) (by kernel_rfl) (fun _ _ _ h => h) (Or.inl ⟨by rfl, by intro w hSw; (try dsimp only at hSw); go_simp; (try with_reducible rfl); (try omega)⟩) (by assumption) ?_; simp only [List.getElem_toArray, List.getElem_cons_succ, List.getElem_cons_zero, Act.put, List.setIfInBounds_toArray, List.set_cons_succ, List.set_cons_zero])
  refine wpAnyH_ready (rs := [2]) (by kernel_rfl) (by simp) (AllReadyH.cons rfl (fun K' hK => ?_) AllReadyH.nil)
  go_simp
  refine (H1.out _ (HE.out.below (below_drew (Below.refl _ _)))).mono ?_
  rintro e w1 ⟨rfl, hb1'⟩
  have hb1 : Below W0.heap.size W0 w1 := (below_drew (Below.refl _ _)).trans hb1'
  try go_simp
  refine hK.out _ _ ⟨(hb1.cell (lt_of_cell B0.out)).trans B0.out, (hb1.cell (lt_of_cell B1.out)).trans B1.out⟩ (fun hHeld5 => ?_)
  clear hK K'
  (refine wpAnyH_take (i := 3) (v := (.string (⟨#[101, 114, 114, 111, 114]⟩ ++ ⟨(numT a.err).toArray⟩))) rfl (by kernel_rfl) (by kernel_rfl) (by kernel_rfl) (fun _ _ _ h => h) (Or.inl ⟨by rfl, by intro w hSw; (try dsimp only at hSw); go_simp; (try with_reducible rfl); (try omega)⟩) (by assumption) ?_; simp only [List.getElem_toArray, List.getElem_cons_succ, List.getElem_cons_zero, Act.put, List.setIfInBounds_toArray, List.set_cons_succ, List.set_cons_zero])
  (refine wpAnyH_take (i := 4) (v := (.string (⟨#[101, 114, 114, 111, 114]⟩ ++ ⟨(numT a.err).toArray⟩ ++ ⟨#[32, 97, 116]⟩))) rfl (by kernel_rfl) (by kernel_rfl) (by kernel_rfl) (fun _ _ _ h => h) (Or.inl ⟨by rfl, by intro w hSw; (try dsimp only at hSw); go_simp; (try with_reducible rfl); (try omega)⟩) (by assumption) ?_; simp only [List.getElem_toArray, List.getElem_cons_succ, List.getElem_cons_zero, Act.put, List.setIfInBounds_toArray, List.set_cons_succ, List.set_cons_zero])
  refine wpAnyH_ready (rs := [7]) (by kernel_rfl) (by simp) (AllReadyH.cons rfl (fun K' hK => ?_) AllReadyH.nil)
  go_simp
  refine (H2.out _ (HE.out.below hb1)).mono ?_
  rintro e w2 ⟨rfl, hb2⟩
  try go_simp
  refine hK.out _ _ ⟨((bthn hb1 hb2).cell (lt_of_cell B0.out)).trans B0.out, ((bthn hb1 hb2).cell (lt_of_cell B1.out)).trans B1.out⟩ (fun hHeld6 => ?_)
  clear hK K'
  (refine wpAnyH_take (i := 8) (v := (.string (⟨#[101, 114, 114, 111, 114]⟩ ++ ⟨(numT a.err).toArray⟩ ++ ⟨#[32, 97, 116]⟩ ++ ⟨(numT a.place).toArray⟩))) rfl (by kernel_rfl) (by kernel_rfl) (by kernel_rfl) (fun _ _ _ h => h) (Or.inl ⟨by rfl, by intro w hSw; (try dsimp only at hSw); go_simp; (try with_reducible rfl); (try omega)⟩) (by assumption) ?_; simp only [List.getElem_toArray, List.getElem_cons_succ, List.getElem_cons_zero, Act.put, List.setIfInBounds_toArray, List.set_cons_succ, List.set_cons_zero])
  (refine wpAnyH_take (i := 9) (v := (.string (⟨#[101, 114, 114, 111, 114]⟩ ++ ⟨(numT a.err).toArray⟩ ++ ⟨#[32, 97, 116]⟩ ++ ⟨(numT a.place).toArray⟩ ++ ⟨#[10]⟩))) rfl (by kernel_rfl) (by kernel_rfl) (by kernel_rfl) (fun _ _ _ h => h) (Or.inl ⟨by rfl, by intro w hSw; (try dsimp only at hSw); go_simp; (try with_reducible rfl); (try omega)⟩) (by assumption) ?_; simp only [List.getElem_toArray, List.getElem_cons_succ, List.getElem_cons_zero, Act.put, List.setIfInBounds_toArray, List.set_cons_succ, List.set_cons_zero])
  (refine wpAnyH_take (i := 10) (v := (.string (⟨#[101, 114, 114, 111, 114]⟩ ++ ⟨(numT a.err).toArray⟩ ++ ⟨#[32, 97, 116]⟩ ++ ⟨(numT a.place).toArray⟩ ++ ⟨#[10]⟩))) rfl (by kernel_rfl) (by kernel_rfl) (by kernel_rfl) (fun _ _ _ h => h) (Or.inl ⟨by rfl, by intro w hSw; (try dsimp only at hSw); go_simp; (try with_reducible rfl); (try omega)⟩) (by assumption) ?_; simp only [List.getElem_toArray, List.getElem_cons_succ, List.getElem_cons_zero, Act.put, List.setIfInBounds_toArray, List.set_cons_succ, List.set_cons_zero])
  refine wpAnyH_done (by kernel_rfl) ?_ _
  go_wp2
  go_ret
  refine ⟨?_, bthn HB.out (bthn hb1 hb2)⟩
  rw [HX.out]
  simp only [← cat_str]
  rfl
set_option maxRecDepth 100000 in
set_option maxHeartbeats 4000000 in
/-- The shell's text of an answer to a command. -/
theorem stext_any (v u : Value) (c : C) (a : A) (hf : FitA a) (w : World) (hE : Env w) (h : IsC w v c) (ha : IsA w u a) : Calls Tryz.prog 23 #[v, u] w (Ret w (.string ⟨(textA c a).toArray⟩)) := by
  by_cases he : a.err = 0
  rotate_left
  · by_cases h4 : c.k = 4
    · exact stext4 v u c a hf h4 he w hE h ha
    have hX : textA c a = faultT a.err a.place := by unfold textA; rw [if_pos he, if_neg h4]
    rw [hX]
    exact stext_fault v u c a h4 he hf.err hf.place w hE h ha
  obtain ⟨pa, pc, ca, cc, ta, tc, hv, -⟩ := h
  obtain ⟨na, nc, ra, rc, hu, hnc, hrc, hns, hrs⟩ := ha
  unfold C.val cmdV at hv
  subst hv hu
  obtain ⟨W0, hW0⟩ : ∃ W0, (w.alloc (.cells #[.int .i64 c.k, .int .i64 c.ak, .int .i64 c.ek, .int .i64 c.ec, .int .i64 c.es, .string c.sql, .slice pa c.ps.length pc, .int .i64 c.n, .bool c.log, .slice ca c.ch.length cc, .int .i64 c.conn, .slice ta c.told.length tc] 47)).alloc (.cells #[.int .i64 a.err, .int .i64 a.place, .bool a.is, .slice na a.names.length nc, .slice ra a.rows.length rc, .int .i64 a.ch] 62) = W0 := ⟨_, rfl⟩
  have hs1 : (w.alloc (Obj.cells #[.int .i64 c.k, .int .i64 c.ak, .int .i64 c.ek, .int .i64 c.ec, .int .i64 c.es, .string c.sql, .slice pa c.ps.length pc, .int .i64 c.n, .bool c.log, .slice ca c.ch.length cc, .int .i64 c.conn, .slice ta c.told.length tc] 47)).heap.size = w.heap.size + 1 := by simp
  have hA : Blk W0 w.heap.size #[.int .i64 c.k, .int .i64 c.ak, .int .i64 c.ek, .int .i64 c.ec, .int .i64 c.es, .string c.sql, .slice pa c.ps.length pc, .int .i64 c.n, .bool c.log, .slice ca c.ch.length cc, .int .i64 c.conn, .slice ta c.told.length tc] 47 := by rw [← hW0]; exact Blk.alloc (Blk.new _ _ _) _
  have hB : Blk W0 (w.heap.size + 1) #[.int .i64 a.err, .int .i64 a.place, .bool a.is, .slice na a.names.length nc, .slice ra a.rows.length rc, .int .i64 a.ch] 62 := by rw [← hW0]; have := Blk.new (w.alloc (Obj.cells #[.int .i64 c.k, .int .i64 c.ak, .int .i64 c.ek, .int .i64 c.ec, .int .i64 c.es, .string c.sql, .slice pa c.ps.length pc, .int .i64 c.n, .bool c.log, .slice ca c.ch.length cc, .int .i64 c.conn, .slice ta c.told.length tc] 47)) #[.int .i64 a.err, .int .i64 a.place, .bool a.is, .slice na a.names.length nc, .slice ra a.rows.length rc, .int .i64 a.ch] 62; rw [hs1] at this; exact this
  have HB : Hid (Below w.heap.size w W0) := Lib.hid (by rw [← hW0]; exact (below_alloc _ _).alloc (by simp) _)
  have HE := Lib.hid (hE.below HB.out)
  have HNs := Lib.hid (hns.below HB.out)
  have HRs := Lib.hid (hrs.below HB.out)
  have HF := Lib.hid hf
  have a0 : W0.cell? ⟨w.heap.size, 0, none⟩ = some (.int .i64 c.k) := Blk.cell hA 0
  have a1 : W0.cell? ⟨w.heap.size, 1, none⟩ = some (.int .i64 c.ak) := Blk.cell hA 1
  have a2 : W0.cell? ⟨w.heap.size, 2, none⟩ = some (.int .i64 c.ek) := Blk.cell hA 2
  have b0 : W0.cell? ⟨w.heap.size + 1, 0, none⟩ = some (.int .i64 a.err) := Blk.cell hB 0
  have b1 : W0.cell? ⟨w.heap.size + 1, 1, none⟩ = some (.int .i64 a.place) := Blk.cell hB 1
  have b2 : W0.cell? ⟨w.heap.size + 1, 2, none⟩ = some (.bool a.is) := Blk.cell hB 2
  have b3 : W0.cell? ⟨w.heap.size + 1, 3, none⟩ = some (.slice na a.names.length nc) := Blk.cell hB 3
  have b4 : W0.cell? ⟨w.heap.size + 1, 4, none⟩ = some (.slice ra a.rows.length rc) := Blk.cell hB 4
  have b5 : W0.cell? ⟨w.heap.size + 1, 5, none⟩ = some (.int .i64 a.ch) := Blk.cell hB 5
  have HNC := Lib.hid hnc
  clear hA hB hs1 hE hns hrs hnc hrc hf
  rw [he] at b0
  have hne : ¬ a.err ≠ 0 := by simp [he]
  by_cases h1 : c.k = 1
  rotate_left
  · have HX : Hid (textA c a = okT) := Lib.hid (by unfold textA; rw [if_neg hne, if_pos (.inl h1)])
    have k1 : (c.k != 1) = true := by simp [h1]
    clear he hne h1
    go_enter Tryz.func23, Tryz.ntmps23
    go_wp2
    go_ret
    rw [HX.out]
    exact ⟨rfl, HB.out⟩
  rw [h1] at a0
  by_cases h2 : c.ak = 1
  rotate_left
  · have HX : Hid (textA c a = okT) := Lib.hid (by unfold textA; rw [if_neg hne, if_pos (.inr h2)])
    have k1 : (c.ak != 1) = true := by simp [h2]
    clear he hne h1 h2
    go_enter Tryz.func23, Tryz.ntmps23
    go_wp2
    go_ret
    rw [HX.out]
    exact ⟨rfl, HB.out⟩
  rw [h2] at a1
  have hn1 : ¬ (c.k ≠ 1 ∨ c.ak ≠ 1) := by simp [h1, h2]
  by_cases h3 : c.ek = 3
  · have HX : Hid (textA c a = resultT a) := Lib.hid (by unfold textA; rw [if_neg hne, if_neg hn1, if_pos h3])
    rw [h3] at a2
    clear he hne h1 h2 hn1 h3
    go_enter Tryz.func23, Tryz.ntmps23
    go_wp2_with (go_at_call 57; refine (sresult_any a HF.out na ra nc rc HNC.out _ HE.out HNs.out HRs.out).mono ?_; rintro e w2 ⟨rfl, hb2⟩)
    go_ret
    rw [HX.out]
    exact ⟨rfl, bthn HB.out hb2⟩
  by_cases h9 : c.ek = 9
  · rw [h9] at a2
    cases hi : a.is with
    | true =>
      have HX : Hid (textA c a = [121, 101, 115, 10]) := Lib.hid (by unfold textA; rw [if_neg hne, if_neg hn1, if_neg h3, if_pos h9, hi]; rfl)
      have HY : Hid (∀ w', Calls Tryz.prog 58 #[.bool true, .string ⟨#[121, 101, 115]⟩, .string ⟨#[110, 111]⟩] w' (Ret w' (.string ⟨([121, 101, 115, 10] : List UInt8).toArray⟩))) := Lib.hid (fun w' => yes_any true [121, 101, 115] [110, 111] (by decide) (by decide) w')
      rw [hi] at b2 hW0
      clear he hne h1 h2 hn1 h3 h9 hi
      go_enter Tryz.func23, Tryz.ntmps23
      go_wp2_with (go_at_call 58; refine (HY.out _).mono ?_; rintro e w2 ⟨rfl, hb2⟩)
      go_ret
      rw [HX.out]
      exact ⟨rfl, bthn HB.out hb2⟩
    | false =>
      have HX : Hid (textA c a = [110, 111, 10]) := Lib.hid (by unfold textA; rw [if_neg hne, if_neg hn1, if_neg h3, if_pos h9, hi]; rfl)
      have HY : Hid (∀ w', Calls Tryz.prog 58 #[.bool false, .string ⟨#[121, 101, 115]⟩, .string ⟨#[110, 111]⟩] w' (Ret w' (.string ⟨([110, 111, 10] : List UInt8).toArray⟩))) := Lib.hid (fun w' => yes_any false [121, 101, 115] [110, 111] (by decide) (by decide) w')
      rw [hi] at b2 hW0
      clear he hne h1 h2 hn1 h3 h9 hi
      go_enter Tryz.func23, Tryz.ntmps23
      go_wp2_with (go_at_call 58; refine (HY.out _).mono ?_; rintro e w2 ⟨rfl, hb2⟩)
      go_ret
      rw [HX.out]
      exact ⟨rfl, bthn HB.out hb2⟩
  have k3 : (c.ek == 3) = false := by simp [h3]
  have k9 : (c.ek == 9) = false := by simp [h9]
  by_cases h6 : c.ek = 6
  rotate_left
  · have HX : Hid (textA c a = okT) := Lib.hid (by unfold textA; rw [if_neg hne, if_neg hn1, if_neg h3, if_neg h9, if_pos h6])
    have k6 : (c.ek == 6) = false := by simp [h6]
    clear he hne h1 h2 hn1 h3 h9 h6
    go_enter Tryz.func23, Tryz.ntmps23
    go_wp2
    go_ret
    rw [HX.out]
    exact ⟨rfl, HB.out⟩
  have hn6 : ¬ c.ek ≠ 6 := by simp [h6]
  have HXs : Hid (textA c a = if a.is then [114, 111, 119, 32] ++ litsT (a.rows.headD []) ++ [10] else [101, 110, 100, 10]) := Lib.hid (by unfold textA; rw [if_neg hne, if_neg hn1, if_neg h3, if_neg h9, if_neg hn6])
  rw [h6] at a2
  clear he hne h1 h2 hn1 h3 h9 h6 hn6 k3 k9
  have HY := Lib.hid (fun r (hr : (litsT r).length ≤ 40000000) w' => yes_any a.is ([114, 111, 119] ++ 32 :: litsT r) [101, 110, 100] (by simp only [List.length_append, List.length_cons, List.length_nil]; omega) (by decide) w')
  have B2 := Lib.hid b2
  obtain hr | ⟨r, rs, hr⟩ : a.rows = [] ∨ ∃ r rs, a.rows = r :: rs := by
    cases a.rows with
    | nil => exact .inl rfl
    | cons r rs => exact .inr ⟨r, rs, rfl⟩
  · have HX : Hid (textA c a = (if a.is then [114, 111, 119] ++ 32 :: litsT [] else [101, 110, 100]) ++ [10]) := Lib.hid (by rw [HXs.out, hr]; cases a.is <;> simp)
    have i0 : ¬ (0 : Int) < (a.rows.length : Int) := by simp [hr]
    have HP := Lib.hid (fun w' hE => params_any none 0 0 [] rfl (by decide) (by intro x hx; cases hx) w' hE (.inl rfl))
    have HY2 := Lib.hid (HY.out [] (by simp [litsT]))
    have hz : (litsT []).length ≤ 40000000 := by simp [litsT]
    generalize litsT [] = t at HX HP HY2 hz
    clear hr HXs HY
    generalize (if a.is then [114, 111, 119] ++ 32 :: t else [101, 110, 100]) ++ [10] = q at HX HY2
    have hcat := cat_str [114, 111, 119] (32 :: t)
    rw [← hcat] at HY2
    clear hcat
    go_enter Tryz.func23, Tryz.ntmps23
    go_wp2_with fail
    refine wp_region_held_drew (S := fun w' => w'.cell? ⟨w.heap.size + 1, 2, none⟩ = some (.bool a.is)) (by kernel_rfl) b2 (fun hHeld => ?_)
    (refine wpAnyH_take (i := 0) (v := (.pointer (some ⟨w.heap.size + 1, 2, none⟩))) rfl (by kernel_rfl) (by kernel_rfl) (by kernel_rfl) (fun _ _ _ h => h) (Or.inl ⟨by rfl, by intro w hSw; (try dsimp only at hSw); go_simp; try with_reducible rfl⟩) (by assumption) ?_; simp only [List.getElem_toArray, List.getElem_cons_zero, Act.put, List.setIfInBounds_toArray, List.set_cons_succ, List.set_cons_zero])
    (refine wpAnyH_take (i := 1) (v := (.bool a.is)) rfl (by kernel_rfl) (by kernel_rfl) (by kernel_rfl) (fun _ _ _ h => h) (Or.inl ⟨by rfl, by intro w hSw; (try dsimp only at hSw); go_simp; (try with_reducible rfl); (try omega)⟩) (by assumption) ?_; simp only [List.getElem_toArray, List.getElem_cons_succ, List.getElem_cons_zero, Act.put, List.setIfInBounds_toArray, List.set_cons_succ, List.set_cons_zero])
    (refine wpAnyH_take (i := 2) (v := (.slice none 0 0)) rfl (by kernel_rfl) (by kernel_rfl) (by kernel_rfl) (fun _ _ _ h => h) (Or.inl ⟨by rfl, by intro w hSw; (try dsimp only at hSw); go_simp; (try with_reducible rfl); (try omega)⟩) (by assumption) ?_; simp only [List.getElem_toArray, List.getElem_cons_succ, List.getElem_cons_zero, Act.put, List.setIfInBounds_toArray, List.set_cons_succ, List.set_cons_zero])
    refine wpAnyH_ready (rs := [3]) (by kernel_rfl) (by simp) (AllReadyH.cons rfl (fun K' hK => ?_) AllReadyH.nil)
    go_simp
    refine (HP.out _ (HE.out.below (below_drew (Below.refl _ _)))).mono ?_
    rintro e w1 ⟨rfl, hb1'⟩
    have hb1 : Below W0.heap.size W0 w1 := (below_drew (Below.refl _ _)).trans hb1'
    try go_simp
    refine hK.out _ _ ((hb1.cell (lt_of_cell B2.out)).trans B2.out) (fun _ => ?_)
    clear hK K'
    (refine wpAnyH_take (i := 4) (v := (.string (⟨#[114, 111, 119]⟩ ++ ⟨(32 :: t).toArray⟩))) rfl (by kernel_rfl) (by kernel_rfl) (by kernel_rfl) (fun _ _ _ h => h) (Or.inl ⟨by rfl, by intro w hSw; (try dsimp only at hSw); go_simp; (try with_reducible rfl); (try omega)⟩) (by assumption) ?_; simp only [List.getElem_toArray, List.getElem_cons_succ, List.getElem_cons_zero, Act.put, List.setIfInBounds_toArray, List.set_cons_succ, List.set_cons_zero])
    refine wpAnyH_ready (rs := [5]) (by kernel_rfl) (by simp) (AllReadyH.cons rfl (fun K' hK => ?_) AllReadyH.nil)
    go_simp
    refine (HY2.out _).mono ?_
    rintro e w2 ⟨rfl, hb2⟩
    try go_simp
    refine hK.out _ _ (((bthn hb1 hb2).cell (lt_of_cell B2.out)).trans B2.out) (fun _ => ?_)
    clear hK K'
    (refine wpAnyH_take (i := 6) (v := (.string ⟨q.toArray⟩)) rfl (by kernel_rfl) (by kernel_rfl) (by kernel_rfl) (fun _ _ _ h => h) (Or.inl ⟨by rfl, by intro w hSw; (try dsimp only at hSw); go_simp; (try with_reducible rfl); (try omega)⟩) (by assumption) ?_; simp only [List.getElem_toArray, List.getElem_cons_succ, List.getElem_cons_zero, Act.put, List.setIfInBounds_toArray, List.set_cons_succ, List.set_cons_zero])
    refine wpAnyH_done (by kernel_rfl) ?_ _
    go_wp2
    go_ret
    rw [HX.out]
    exact ⟨rfl, bthn HB.out (bthn hb1 hb2)⟩
  · have HX : Hid (textA c a = (if a.is then [114, 111, 119] ++ 32 :: litsT r else [101, 110, 100]) ++ [10]) := Lib.hid (by rw [HXs.out, hr]; cases a.is <;> simp)
    have hlt : 0 < a.rows.length := by rw [hr]; simp
    obtain ⟨b, o, hra, qa, qc, c0, hqc, hvs⟩ := HRs.out.at_ hlt
    have h0 : a.rows[0] = r := by simp [hr]
    obtain ⟨hin1, hin2⟩ := HF.out.rf a.rows[0] (List.getElem_mem hlt)
    have hz : (litsT r).length ≤ 40000000 := by
      have h1 := HF.out.rt
      rw [hr] at h1
      simp only [rowsT, List.flatMap_cons, List.length_append] at h1
      omega
    rw [h0] at c0 hvs hin1 hin2
    subst hra
    rw [Nat.add_zero] at c0
    have hin3 : r.length ≤ 16777216 := Nat.le_trans hin2 (by decide)
    have HVr := Lib.hid hvs
    have HP := Lib.hid (fun w' (hb : Below W0.heap.size W0 w') hE => params_any qa r.length qc r rfl hin3 hin1 w' hE (HVr.out.below hb))
    have HY2 := Lib.hid (HY.out r hz)
    have i1 : (0 : Int) < (a.rows.length : Int) := by omega
    generalize litsT r = t at HX HP HY2 hz
    clear hr HXs h0 hin1 hin2 hin3 hvs hqc HY
    generalize (if a.is then [114, 111, 119] ++ 32 :: t else [101, 110, 100]) ++ [10] = q at HX HY2
    have hcat := cat_str [114, 111, 119] (32 :: t)
    rw [← hcat] at HY2
    clear hcat
    go_enter Tryz.func23, Tryz.ntmps23
    go_wp2_with fail
    refine wp_region_held_drew (S := fun w' => w'.cell? ⟨w.heap.size + 1, 2, none⟩ = some (.bool a.is)) (by kernel_rfl) b2 (fun hHeld => ?_)
    (refine wpAnyH_take (i := 0) (v := (.pointer (some ⟨w.heap.size + 1, 2, none⟩))) rfl (by kernel_rfl) (by kernel_rfl) (by kernel_rfl) (fun _ _ _ h => h) (Or.inl ⟨by rfl, by intro w hSw; (try dsimp only at hSw); go_simp; try with_reducible rfl⟩) (by assumption) ?_; simp only [List.getElem_toArray, List.getElem_cons_zero, Act.put, List.setIfInBounds_toArray, List.set_cons_succ, List.set_cons_zero])
    (refine wpAnyH_take (i := 1) (v := (.bool a.is)) rfl (by kernel_rfl) (by kernel_rfl) (by kernel_rfl) (fun _ _ _ h => h) (Or.inl ⟨by rfl, by intro w hSw; (try dsimp only at hSw); go_simp; (try with_reducible rfl); (try omega)⟩) (by assumption) ?_; simp only [List.getElem_toArray, List.getElem_cons_succ, List.getElem_cons_zero, Act.put, List.setIfInBounds_toArray, List.set_cons_succ, List.set_cons_zero])
    (refine wpAnyH_take (i := 2) (v := (.slice qa r.length qc)) rfl (by kernel_rfl) (by kernel_rfl) (by kernel_rfl) (fun _ _ _ h => h) (Or.inl ⟨by rfl, by intro w hSw; (try dsimp only at hSw); go_simp; (try with_reducible rfl); (try omega)⟩) (by assumption) ?_; simp only [List.getElem_toArray, List.getElem_cons_succ, List.getElem_cons_zero, Act.put, List.setIfInBounds_toArray, List.set_cons_succ, List.set_cons_zero])
    refine wpAnyH_ready (rs := [3]) (by kernel_rfl) (by simp) (AllReadyH.cons rfl (fun K' hK => ?_) AllReadyH.nil)
    go_simp
    refine (HP.out _ (below_drew (Below.refl _ _)) (HE.out.below (below_drew (Below.refl _ _)))).mono ?_
    rintro e w1 ⟨rfl, hb1'⟩
    have hb1 : Below W0.heap.size W0 w1 := (below_drew (Below.refl _ _)).trans hb1'
    try go_simp
    refine hK.out _ _ ((hb1.cell (lt_of_cell B2.out)).trans B2.out) (fun _ => ?_)
    clear hK K'
    (refine wpAnyH_take (i := 4) (v := (.string (⟨#[114, 111, 119]⟩ ++ ⟨(32 :: t).toArray⟩))) rfl (by kernel_rfl) (by kernel_rfl) (by kernel_rfl) (fun _ _ _ h => h) (Or.inl ⟨by rfl, by intro w hSw; (try dsimp only at hSw); go_simp; (try with_reducible rfl); (try omega)⟩) (by assumption) ?_; simp only [List.getElem_toArray, List.getElem_cons_succ, List.getElem_cons_zero, Act.put, List.setIfInBounds_toArray, List.set_cons_succ, List.set_cons_zero])
    refine wpAnyH_ready (rs := [5]) (by kernel_rfl) (by simp) (AllReadyH.cons rfl (fun K' hK => ?_) AllReadyH.nil)
    go_simp
    refine (HY2.out _).mono ?_
    rintro e w2 ⟨rfl, hb2⟩
    try go_simp
    refine hK.out _ _ (((bthn hb1 hb2).cell (lt_of_cell B2.out)).trans B2.out) (fun _ => ?_)
    clear hK K'
    (refine wpAnyH_take (i := 6) (v := (.string ⟨q.toArray⟩)) rfl (by kernel_rfl) (by kernel_rfl) (by kernel_rfl) (fun _ _ _ h => h) (Or.inl ⟨by rfl, by intro w hSw; (try dsimp only at hSw); go_simp; (try with_reducible rfl); (try omega)⟩) (by assumption) ?_; simp only [List.getElem_toArray, List.getElem_cons_succ, List.getElem_cons_zero, Act.put, List.setIfInBounds_toArray, List.set_cons_succ, List.set_cons_zero])
    refine wpAnyH_done (by kernel_rfl) ?_ _
    go_wp2
    go_ret
    rw [HX.out]
    exact ⟨rfl, bthn HB.out (bthn hb1 hb2)⟩
end Go.Proofs.YtkkildkleleppaaGreatDoor
