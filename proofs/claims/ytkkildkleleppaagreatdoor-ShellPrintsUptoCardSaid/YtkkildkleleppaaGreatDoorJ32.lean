/- The shell's sameness of commands, part A. The shell's sameness of commands, part B. -/
import Derived.Test.YtkkildkleleppaaGreatDoorJ31
namespace Go.Proofs.YtkkildkleleppaaGreatDoor
open Go.RowKit


set_option maxRecDepth 100000 in
set_option maxHeartbeats 8000000 in
theorem ssame_A (u v : Value) (a b : C) (hyp : ((a.k == b.k) && (a.conn == b.conn) && sameTs a.told b.told) = false) (la : LenC a) (lb : LenC b) (w : World) (h : IsC w u a) (h' : IsC w v b) : Calls Tryz.prog 53 #[u, v] w (Ret w (.bool (sameC a b))) := by
  obtain ⟨pa, pc, ca, cc, ta, tc, rfl, -, -, -, h1, h2, h3⟩ := h
  obtain ⟨qa, qc, da, dc, sa, sc, rfl, -, -, -, k1, k2, k3⟩ := h'
  have HI := Lib.hid (fun w' hb => iequal_any ca a.ch.length cc a.ch rfl da b.ch.length dc b.ch rfl la.ch lb.ch w' (h2.below hb) (k2.below hb))
  have HT := Lib.hid (fun w' hb => tequal_any ta a.told.length tc a.told rfl sa b.told.length sc b.told rfl la.tl lb.tl la.tp lb.tp w' (h3.below hb) (k3.below hb))
  have HP := Lib.hid (fun w' hb => vequal_any pa a.ps.length pc a.ps rfl qa b.ps.length qc b.ps rfl la.ps lb.ps w' (h1.below hb) (k1.below hb))
  clear h1 h2 h3 k1 k2 k3 la lb
  obtain ⟨R, hR⟩ : ∃ R, sameC a b = R := ⟨_, rfl⟩
  rw [hR]
  obtain ⟨k, ak, ek, ec, es, sql, ps, n, lg, ch, cn, td⟩ := a
  obtain ⟨k', ak', ek', ec', es', sql', ps', n', lg', ch', cn', td'⟩ := b
  have HC : Hid (R = (k == k' && cn == cn' && ak == ak' && n == n' && lg == lg' && sameIs ch ch' && sameTs td td' && (ek == ek' && ec == ec' && es == es' && sql.data.toList == sql'.data.toList && sameVs ps ps'))) := Lib.hid hR.symm
  clear hR
  simp only [C.val, cmdV] at HI HT HP ⊢
  simp only at hyp
  generalize sameTs td td' = bt at hyp HT HC
  generalize sameIs ch ch' = bi at HI HC
  generalize sameVs ps ps' = bp at HP HC
  go_enter Tryz.func53, Tryz.ntmps53
  go_upto_region 1 with fail
  generalize hW0 : (w.alloc (Obj.cells #[.int .i64 k, .int .i64 ak, .int .i64 ek, .int .i64 ec, .int .i64 es, .string sql, .slice pa ps.length pc, .int .i64 n, .bool lg, .slice ca ch.length cc, .int .i64 cn, .slice ta td.length tc] 47)).alloc (Obj.cells #[.int .i64 k', .int .i64 ak', .int .i64 ek', .int .i64 ec', .int .i64 es', .string sql', .slice qa ps'.length qc, .int .i64 n', .bool lg', .slice da ch'.length dc, .int .i64 cn', .slice sa td'.length sc] 47) = W0
  have hs1 : (w.alloc (Obj.cells #[.int .i64 k, .int .i64 ak, .int .i64 ek, .int .i64 ec, .int .i64 es, .string sql, .slice pa ps.length pc, .int .i64 n, .bool lg, .slice ca ch.length cc, .int .i64 cn, .slice ta td.length tc] 47)).heap.size = w.heap.size + 1 := by simp
  have hA0 : Blk W0 w.heap.size #[.int .i64 k, .int .i64 ak, .int .i64 ek, .int .i64 ec, .int .i64 es, .string sql, .slice pa ps.length pc, .int .i64 n, .bool lg, .slice ca ch.length cc, .int .i64 cn, .slice ta td.length tc] 47 := by rw [← hW0]; exact Blk.alloc (Blk.new _ _ _) _
  have hB0 : Blk W0 (w.heap.size + 1) #[.int .i64 k', .int .i64 ak', .int .i64 ek', .int .i64 ec', .int .i64 es', .string sql', .slice qa ps'.length qc, .int .i64 n', .bool lg', .slice da ch'.length dc, .int .i64 cn', .slice sa td'.length sc] 47 := by rw [← hW0]; have := Blk.new (w.alloc (Obj.cells #[.int .i64 k, .int .i64 ak, .int .i64 ek, .int .i64 ec, .int .i64 es, .string sql, .slice pa ps.length pc, .int .i64 n, .bool lg, .slice ca ch.length cc, .int .i64 cn, .slice ta td.length tc] 47)) #[.int .i64 k', .int .i64 ak', .int .i64 ek', .int .i64 ec', .int .i64 es', .string sql', .slice qa ps'.length qc, .int .i64 n', .bool lg', .slice da ch'.length dc, .int .i64 cn', .slice sa td'.length sc] 47; rw [hs1] at this; exact this
  have hbw : Below w.heap.size w W0 := by rw [← hW0]; exact (below_alloc _ _).alloc (by simp) _
  clear hs1 hW0
  apply of_key (H := fun W p q => Below w.heap.size w W ∧ Blk W p #[.int .i64 ak, .int .i64 ek, .int .i64 ec, .int .i64 es, .string sql, .slice pa ps.length pc, .int .i64 n, .bool lg, .slice ca ch.length cc] 45 ∧ Blk W q #[.int .i64 ak', .int .i64 ek', .int .i64 ec', .int .i64 es', .string sql', .slice qa ps'.length qc, .int .i64 n', .bool lg', .slice da ch'.length dc] 45 ∧ Blk W w.heap.size #[.int .i64 k, .int .i64 ak, .int .i64 ek, .int .i64 ec, .int .i64 es, .string sql, .slice pa ps.length pc, .int .i64 n, .bool lg, .slice ca ch.length cc, .int .i64 cn, .slice ta td.length tc] 47 ∧ Blk W (w.heap.size + 1) #[.int .i64 k', .int .i64 ak', .int .i64 ek', .int .i64 ec', .int .i64 es', .string sql', .slice qa ps'.length qc, .int .i64 n', .bool lg', .slice da ch'.length dc, .int .i64 cn', .slice sa td'.length sc] 47 ∧ (w.heap.size ≤ p ∧ w.heap.size ≤ q))
  · intro key
    have hk := Lib.hid key
    clear key
    refine wp_region_held_drew (S := fun w' => Blk w' (w.heap.size) #[.int .i64 k, .int .i64 ak, .int .i64 ek, .int .i64 ec, .int .i64 es, .string sql, .slice pa ps.length pc, .int .i64 n, .bool lg, .slice ca ch.length cc, .int .i64 cn, .slice ta td.length tc] 47 ∧ Blk w' (w.heap.size + 1) #[.int .i64 k', .int .i64 ak', .int .i64 ek', .int .i64 ec', .int .i64 es', .string sql', .slice qa ps'.length qc, .int .i64 n', .bool lg', .slice da ch'.length dc, .int .i64 cn', .slice sa td'.length sc] 47) (by kernel_rfl) ⟨hA0, hB0⟩ (fun hHeld => ?_)
    (refine wpAnyH_take (i := 0) (v := (.pointer (some ⟨w.heap.size, 1, none⟩))) rfl (by kernel_rfl) (by kernel_rfl) (by kernel_rfl) (fun _ _ _ h => h) (Or.inl ⟨by rfl, by intro w hSw; obtain ⟨y0, y1, y2, y3, y4, y5, y6, y7, y8, y9, y10, y11⟩ := Blk.c12 hSw.1; obtain ⟨z0, z1, z2, z3, z4, z5, z6, z7, z8, z9, z10, z11⟩ := Blk.c12 hSw.2; clear hSw; go_simp; try with_reducible rfl⟩) (by assumption) ?_; simp only [List.getElem_toArray, List.getElem_cons_zero, Act.put, List.setIfInBounds_toArray, List.set_cons_succ, List.set_cons_zero])
    (refine wpAnyH_take (i := 1) (v := (.agg #[.int .i64 ak, .int .i64 ek, .int .i64 ec, .int .i64 es, .string sql, .slice pa ps.length pc, .int .i64 n, .bool lg, .slice ca ch.length cc])) rfl (by kernel_rfl) (by kernel_rfl) (by kernel_rfl) (fun _ _ _ h => h) (Or.inl ⟨by rfl, by intro w hSw; obtain ⟨y0, y1, y2, y3, y4, y5, y6, y7, y8, y9, y10, y11⟩ := Blk.c12 hSw.1; obtain ⟨z0, z1, z2, z3, z4, z5, z6, z7, z8, z9, z10, z11⟩ := Blk.c12 hSw.2; clear hSw; go_simp; try with_reducible rfl⟩) (by assumption) ?_; simp only [List.getElem_toArray, List.getElem_cons_succ, List.getElem_cons_zero, Act.put, List.setIfInBounds_toArray, List.set_cons_succ, List.set_cons_zero])
    (refine wpAnyH_take (i := 2) (v := (.pointer (some ⟨w.heap.size + 1, 1, none⟩))) rfl (by kernel_rfl) (by kernel_rfl) (by kernel_rfl) (fun _ _ _ h => h) (Or.inl ⟨by rfl, by intro w hSw; obtain ⟨y0, y1, y2, y3, y4, y5, y6, y7, y8, y9, y10, y11⟩ := Blk.c12 hSw.1; obtain ⟨z0, z1, z2, z3, z4, z5, z6, z7, z8, z9, z10, z11⟩ := Blk.c12 hSw.2; clear hSw; go_simp; try with_reducible rfl⟩) (by assumption) ?_; simp only [List.getElem_toArray, List.getElem_cons_succ, List.getElem_cons_zero, Act.put, List.setIfInBounds_toArray, List.set_cons_succ, List.set_cons_zero])
    (refine wpAnyH_take (i := 3) (v := (.agg #[.int .i64 ak', .int .i64 ek', .int .i64 ec', .int .i64 es', .string sql', .slice qa ps'.length qc, .int .i64 n', .bool lg', .slice da ch'.length dc])) rfl (by kernel_rfl) (by kernel_rfl) (by kernel_rfl) (fun _ _ _ h => h) (Or.inl ⟨by rfl, by intro w hSw; obtain ⟨y0, y1, y2, y3, y4, y5, y6, y7, y8, y9, y10, y11⟩ := Blk.c12 hSw.1; obtain ⟨z0, z1, z2, z3, z4, z5, z6, z7, z8, z9, z10, z11⟩ := Blk.c12 hSw.2; clear hSw; go_simp; try with_reducible rfl⟩) (by assumption) ?_; simp only [List.getElem_toArray, List.getElem_cons_succ, List.getElem_cons_zero, Act.put, List.setIfInBounds_toArray, List.set_cons_succ, List.set_cons_zero])
    clear hHeld
    have hp0 : w.heap.size < W0.heap.size := Blk.lt hA0
    have hp1 : w.heap.size + 1 < W0.heap.size := Blk.lt hB0
    have hz1 : (W0.alloc (Obj.cells #[.int .i64 0, .int .i64 0, .int .i64 0, .int .i64 0, .string ⟨#[]⟩, .slice none 0 0, .int .i64 0, .bool false, .slice none 0 0] 45)).heap.size = W0.heap.size + 1 := by simp
    have hA1 : Blk (W0.alloc (Obj.cells #[.int .i64 0, .int .i64 0, .int .i64 0, .int .i64 0, .string ⟨#[]⟩, .slice none 0 0, .int .i64 0, .bool false, .slice none 0 0] 45)).drew (w.heap.size) #[.int .i64 k, .int .i64 ak, .int .i64 ek, .int .i64 ec, .int .i64 es, .string sql, .slice pa ps.length pc, .int .i64 n, .bool lg, .slice ca ch.length cc, .int .i64 cn, .slice ta td.length tc] 47 := Blk.drew (Blk.alloc hA0 _)
    have hB1 : Blk (W0.alloc (Obj.cells #[.int .i64 0, .int .i64 0, .int .i64 0, .int .i64 0, .string ⟨#[]⟩, .slice none 0 0, .int .i64 0, .bool false, .slice none 0 0] 45)).drew (w.heap.size + 1) #[.int .i64 k', .int .i64 ak', .int .i64 ek', .int .i64 ec', .int .i64 es', .string sql', .slice qa ps'.length qc, .int .i64 n', .bool lg', .slice da ch'.length dc, .int .i64 cn', .slice sa td'.length sc] 47 := Blk.drew (Blk.alloc hB0 _)
    have hA2 : Blk ((W0.alloc (Obj.cells #[.int .i64 0, .int .i64 0, .int .i64 0, .int .i64 0, .string ⟨#[]⟩, .slice none 0 0, .int .i64 0, .bool false, .slice none 0 0] 45)).alloc (Obj.cells #[.int .i64 0, .int .i64 0, .int .i64 0, .int .i64 0, .string ⟨#[]⟩, .slice none 0 0, .int .i64 0, .bool false, .slice none 0 0] 45)).drew (w.heap.size) #[.int .i64 k, .int .i64 ak, .int .i64 ek, .int .i64 ec, .int .i64 es, .string sql, .slice pa ps.length pc, .int .i64 n, .bool lg, .slice ca ch.length cc, .int .i64 cn, .slice ta td.length tc] 47 := Blk.drew (Blk.alloc (Blk.alloc hA0 _) _)
    have hB2 : Blk ((W0.alloc (Obj.cells #[.int .i64 0, .int .i64 0, .int .i64 0, .int .i64 0, .string ⟨#[]⟩, .slice none 0 0, .int .i64 0, .bool false, .slice none 0 0] 45)).alloc (Obj.cells #[.int .i64 0, .int .i64 0, .int .i64 0, .int .i64 0, .string ⟨#[]⟩, .slice none 0 0, .int .i64 0, .bool false, .slice none 0 0] 45)).drew (w.heap.size + 1) #[.int .i64 k', .int .i64 ak', .int .i64 ek', .int .i64 ec', .int .i64 es', .string sql', .slice qa ps'.length qc, .int .i64 n', .bool lg', .slice da ch'.length dc, .int .i64 cn', .slice sa td'.length sc] 47 := Blk.drew (Blk.alloc (Blk.alloc hB0 _) _)
    have hP2 : Blk ((W0.alloc (Obj.cells #[.int .i64 0, .int .i64 0, .int .i64 0, .int .i64 0, .string ⟨#[]⟩, .slice none 0 0, .int .i64 0, .bool false, .slice none 0 0] 45)).alloc (Obj.cells #[.int .i64 0, .int .i64 0, .int .i64 0, .int .i64 0, .string ⟨#[]⟩, .slice none 0 0, .int .i64 0, .bool false, .slice none 0 0] 45)).drew W0.heap.size #[.int .i64 0, .int .i64 0, .int .i64 0, .int .i64 0, .string ⟨#[]⟩, .slice none 0 0, .int .i64 0, .bool false, .slice none 0 0] 45 := Blk.drew (Blk.alloc (Blk.new _ _ _) _)
    have hQ2 : Blk ((W0.alloc (Obj.cells #[.int .i64 0, .int .i64 0, .int .i64 0, .int .i64 0, .string ⟨#[]⟩, .slice none 0 0, .int .i64 0, .bool false, .slice none 0 0] 45)).alloc (Obj.cells #[.int .i64 0, .int .i64 0, .int .i64 0, .int .i64 0, .string ⟨#[]⟩, .slice none 0 0, .int .i64 0, .bool false, .slice none 0 0] 45)).drew (W0.heap.size + 1) #[.int .i64 0, .int .i64 0, .int .i64 0, .int .i64 0, .string ⟨#[]⟩, .slice none 0 0, .int .i64 0, .bool false, .slice none 0 0] 45 := by have h := Blk.new (W0.alloc (Obj.cells #[.int .i64 0, .int .i64 0, .int .i64 0, .int .i64 0, .string ⟨#[]⟩, .slice none 0 0, .int .i64 0, .bool false, .slice none 0 0] 45)) #[.int .i64 0, .int .i64 0, .int .i64 0, .int .i64 0, .string ⟨#[]⟩, .slice none 0 0, .int .i64 0, .bool false, .slice none 0 0] 45; rw [hz1] at h; exact Blk.drew h
    have hb2 : Below w.heap.size w ((W0.alloc (Obj.cells #[.int .i64 0, .int .i64 0, .int .i64 0, .int .i64 0, .string ⟨#[]⟩, .slice none 0 0, .int .i64 0, .bool false, .slice none 0 0] 45)).alloc (Obj.cells #[.int .i64 0, .int .i64 0, .int .i64 0, .int .i64 0, .string ⟨#[]⟩, .slice none 0 0, .int .i64 0, .bool false, .slice none 0 0] 45)).drew := below_drew ((hbw.alloc hbw.size _).alloc (by have := hbw.size; simp; omega) _)
    clear hz1
    refine wpAnyH_ready (rs := [4, 5]) (by kernel_rfl) (by simp) (AllReadyH.cons rfl (fun K' hK => ?_) (AllReadyH.cons rfl (fun K' hK => ?_) AllReadyH.nil))
    · go_simp
      refine hK.out _ _ ⟨hA1, hB1⟩ (fun _ => ?_)
      clear hK K'
      refine wpAnyH_ready (rs := [5]) (by kernel_rfl) (by simp) (AllReadyH.cons rfl (fun K' hK => ?_) AllReadyH.nil)
      go_simp
      generalize hW2 : ((W0.alloc (Obj.cells #[.int .i64 0, .int .i64 0, .int .i64 0, .int .i64 0, .string ⟨#[]⟩, .slice none 0 0, .int .i64 0, .bool false, .slice none 0 0] 45)).alloc (Obj.cells #[.int .i64 0, .int .i64 0, .int .i64 0, .int .i64 0, .string ⟨#[]⟩, .slice none 0 0, .int .i64 0, .bool false, .slice none 0 0] 45)).drew = W2 at hA2 hB2 hP2 hQ2 hb2 ⊢
      refine hK.out _ _ ⟨hA2, hB2⟩ (fun _ => ?_)
      clear hK K' hW2 hA1 hB1
      have f0 := Blk.free hP2 0
      have f1 := Blk.free hP2 1
      have f2 := Blk.free hP2 2
      have f3 := Blk.free hP2 3
      have f4 := Blk.free hP2 4
      have f5 := Blk.free hP2 5
      have f6 := Blk.free hP2 6
      have f7 := Blk.free hP2 7
      have f8 := Blk.free hP2 8
      obtain ⟨e0, e1, e2, e3, e4, e5, e6, e7, e8⟩ := Blk.c9_ hP2
      refine wpAnyH_ready (rs := [6]) (by kernel_rfl) (by simp) (AllReadyH.cons rfl (fun K' hK => ?_) AllReadyH.nil)
      go_simp
      generalize hW3 : (((((((((W2).setCell ⟨W0.heap.size, 0, none⟩ (.int .i64 ak)).setCell ⟨W0.heap.size, 1, none⟩ (.int .i64 ek)).setCell ⟨W0.heap.size, 2, none⟩ (.int .i64 ec)).setCell ⟨W0.heap.size, 3, none⟩ (.int .i64 es)).setCell ⟨W0.heap.size, 4, none⟩ (.string sql)).setCell ⟨W0.heap.size, 5, none⟩ (.slice pa ps.length pc)).setCell ⟨W0.heap.size, 6, none⟩ (.int .i64 n)).setCell ⟨W0.heap.size, 7, none⟩ (.bool lg)).setCell ⟨W0.heap.size, 8, none⟩ (.slice ca ch.length cc) = W3
      have hm3 : Moved (W0.heap.size) W2 W3 := by rw [← hW3]; exact (((((((((Moved.set (W0.heap.size) 0 _ _).trans (Moved.set (W0.heap.size) 1 _ _)).trans (Moved.set (W0.heap.size) 2 _ _)).trans (Moved.set (W0.heap.size) 3 _ _)).trans (Moved.set (W0.heap.size) 4 _ _)).trans (Moved.set (W0.heap.size) 5 _ _)).trans (Moved.set (W0.heap.size) 6 _ _)).trans (Moved.set (W0.heap.size) 7 _ _)).trans (Moved.set (W0.heap.size) 8 _ _))
      have hP3 : Blk W3 (W0.heap.size) #[.int .i64 ak, .int .i64 ek, .int .i64 ec, .int .i64 es, .string sql, .slice pa ps.length pc, .int .i64 n, .bool lg, .slice ca ch.length cc] 45 := by rw [← hW3]; exact Blk.set9_ hP2
      have hQ3 : Blk W3 (W0.heap.size + 1) #[.int .i64 0, .int .i64 0, .int .i64 0, .int .i64 0, .string ⟨#[]⟩, .slice none 0 0, .int .i64 0, .bool false, .slice none 0 0] 45 := Blk.moved hQ2 hm3 (by omega)
      have hA3 := Blk.moved hA2 hm3 (by omega)
      have hB3 := Blk.moved hB2 hm3 (by omega)
      have hb3 : Below w.heap.size w W3 := below_over hb2 hm3 (by have := hp0; have := hp1; omega) (Nat.le_refl _)
      refine hK.out _ _ ⟨hA3, hB3⟩ (fun _ => ?_)
      clear hK K' hW3 hm3 hA2 hB2 hP2 hQ2 hb2 f0 e0 f1 e1 f2 e2 f3 e3 f4 e4 f5 e5 f6 e6 f7 e7 f8 e8
      have f0 := Blk.free hQ3 0
      have f1 := Blk.free hQ3 1
      have f2 := Blk.free hQ3 2
      have f3 := Blk.free hQ3 3
      have f4 := Blk.free hQ3 4
      have f5 := Blk.free hQ3 5
      have f6 := Blk.free hQ3 6
      have f7 := Blk.free hQ3 7
      have f8 := Blk.free hQ3 8
      obtain ⟨e0, e1, e2, e3, e4, e5, e6, e7, e8⟩ := Blk.c9_ hQ3
      refine wpAnyH_ready (rs := [7]) (by kernel_rfl) (by simp) (AllReadyH.cons rfl (fun K' hK => ?_) AllReadyH.nil)
      go_simp
      generalize hW4 : (((((((((W3).setCell ⟨W0.heap.size + 1, 0, none⟩ (.int .i64 ak')).setCell ⟨W0.heap.size + 1, 1, none⟩ (.int .i64 ek')).setCell ⟨W0.heap.size + 1, 2, none⟩ (.int .i64 ec')).setCell ⟨W0.heap.size + 1, 3, none⟩ (.int .i64 es')).setCell ⟨W0.heap.size + 1, 4, none⟩ (.string sql')).setCell ⟨W0.heap.size + 1, 5, none⟩ (.slice qa ps'.length qc)).setCell ⟨W0.heap.size + 1, 6, none⟩ (.int .i64 n')).setCell ⟨W0.heap.size + 1, 7, none⟩ (.bool lg')).setCell ⟨W0.heap.size + 1, 8, none⟩ (.slice da ch'.length dc) = W4
      have hm4 : Moved (W0.heap.size + 1) W3 W4 := by rw [← hW4]; exact (((((((((Moved.set (W0.heap.size + 1) 0 _ _).trans (Moved.set (W0.heap.size + 1) 1 _ _)).trans (Moved.set (W0.heap.size + 1) 2 _ _)).trans (Moved.set (W0.heap.size + 1) 3 _ _)).trans (Moved.set (W0.heap.size + 1) 4 _ _)).trans (Moved.set (W0.heap.size + 1) 5 _ _)).trans (Moved.set (W0.heap.size + 1) 6 _ _)).trans (Moved.set (W0.heap.size + 1) 7 _ _)).trans (Moved.set (W0.heap.size + 1) 8 _ _))
      have hQ4 : Blk W4 (W0.heap.size + 1) #[.int .i64 ak', .int .i64 ek', .int .i64 ec', .int .i64 es', .string sql', .slice qa ps'.length qc, .int .i64 n', .bool lg', .slice da ch'.length dc] 45 := by rw [← hW4]; exact Blk.set9_ hQ3
      have hP4 : Blk W4 (W0.heap.size) #[.int .i64 ak, .int .i64 ek, .int .i64 ec, .int .i64 es, .string sql, .slice pa ps.length pc, .int .i64 n, .bool lg, .slice ca ch.length cc] 45 := Blk.moved hP3 hm4 (by omega)
      have hA4 := Blk.moved hA3 hm4 (by omega)
      have hB4 := Blk.moved hB3 hm4 (by omega)
      have hb4 : Below w.heap.size w W4 := below_over hb3 hm4 (by have := hp0; have := hp1; omega) (Nat.le_refl _)
      refine hK.out _ _ ⟨hA4, hB4⟩ (fun _ => ?_)
      clear hK K' hW4 hm4 hA3 hB3 hP3 hQ3 hb3 f0 e0 f1 e1 f2 e2 f3 e3 f4 e4 f5 e5 f6 e6 f7 e7 f8 e8
      refine wpAnyH_done (by kernel_rfl) ?_ _
      have hpp : w.heap.size ≤ W0.heap.size := by omega
      have hqq : w.heap.size ≤ W0.heap.size + 1 := by omega
      generalize W0.heap.size + 1 = q at hQ4 hqq ⊢
      generalize W0.heap.size = p at hP4 hpp ⊢
      exact hk.out W4 p q ⟨hb4, hP4, hQ4, hA4, hB4, hpp, hqq⟩
    · go_simp
      refine hK.out _ _ ⟨hA1, hB1⟩ (fun _ => ?_)
      clear hK K'
      refine wpAnyH_ready (rs := [4]) (by kernel_rfl) (by simp) (AllReadyH.cons rfl (fun K' hK => ?_) AllReadyH.nil)
      go_simp
      generalize hW2 : ((W0.alloc (Obj.cells #[.int .i64 0, .int .i64 0, .int .i64 0, .int .i64 0, .string ⟨#[]⟩, .slice none 0 0, .int .i64 0, .bool false, .slice none 0 0] 45)).alloc (Obj.cells #[.int .i64 0, .int .i64 0, .int .i64 0, .int .i64 0, .string ⟨#[]⟩, .slice none 0 0, .int .i64 0, .bool false, .slice none 0 0] 45)).drew = W2 at hA2 hB2 hP2 hQ2 hb2 ⊢
      refine hK.out _ _ ⟨hA2, hB2⟩ (fun _ => ?_)
      clear hK K' hW2 hA1 hB1
      have f0 := Blk.free hQ2 0
      have f1 := Blk.free hQ2 1
      have f2 := Blk.free hQ2 2
      have f3 := Blk.free hQ2 3
      have f4 := Blk.free hQ2 4
      have f5 := Blk.free hQ2 5
      have f6 := Blk.free hQ2 6
      have f7 := Blk.free hQ2 7
      have f8 := Blk.free hQ2 8
      obtain ⟨e0, e1, e2, e3, e4, e5, e6, e7, e8⟩ := Blk.c9_ hQ2
      refine wpAnyH_ready (rs := [6]) (by kernel_rfl) (by simp) (AllReadyH.cons rfl (fun K' hK => ?_) AllReadyH.nil)
      go_simp
      generalize hW3 : (((((((((W2).setCell ⟨W0.heap.size + 1, 0, none⟩ (.int .i64 ak)).setCell ⟨W0.heap.size + 1, 1, none⟩ (.int .i64 ek)).setCell ⟨W0.heap.size + 1, 2, none⟩ (.int .i64 ec)).setCell ⟨W0.heap.size + 1, 3, none⟩ (.int .i64 es)).setCell ⟨W0.heap.size + 1, 4, none⟩ (.string sql)).setCell ⟨W0.heap.size + 1, 5, none⟩ (.slice pa ps.length pc)).setCell ⟨W0.heap.size + 1, 6, none⟩ (.int .i64 n)).setCell ⟨W0.heap.size + 1, 7, none⟩ (.bool lg)).setCell ⟨W0.heap.size + 1, 8, none⟩ (.slice ca ch.length cc) = W3
      have hm3 : Moved (W0.heap.size + 1) W2 W3 := by rw [← hW3]; exact (((((((((Moved.set (W0.heap.size + 1) 0 _ _).trans (Moved.set (W0.heap.size + 1) 1 _ _)).trans (Moved.set (W0.heap.size + 1) 2 _ _)).trans (Moved.set (W0.heap.size + 1) 3 _ _)).trans (Moved.set (W0.heap.size + 1) 4 _ _)).trans (Moved.set (W0.heap.size + 1) 5 _ _)).trans (Moved.set (W0.heap.size + 1) 6 _ _)).trans (Moved.set (W0.heap.size + 1) 7 _ _)).trans (Moved.set (W0.heap.size + 1) 8 _ _))
      have hP3 : Blk W3 (W0.heap.size + 1) #[.int .i64 ak, .int .i64 ek, .int .i64 ec, .int .i64 es, .string sql, .slice pa ps.length pc, .int .i64 n, .bool lg, .slice ca ch.length cc] 45 := by rw [← hW3]; exact Blk.set9_ hQ2
      have hQ3 : Blk W3 (W0.heap.size) #[.int .i64 0, .int .i64 0, .int .i64 0, .int .i64 0, .string ⟨#[]⟩, .slice none 0 0, .int .i64 0, .bool false, .slice none 0 0] 45 := Blk.moved hP2 hm3 (by omega)
      have hA3 := Blk.moved hA2 hm3 (by omega)
      have hB3 := Blk.moved hB2 hm3 (by omega)
      have hb3 : Below w.heap.size w W3 := below_over hb2 hm3 (by have := hp0; have := hp1; omega) (Nat.le_refl _)
      refine hK.out _ _ ⟨hA3, hB3⟩ (fun _ => ?_)
      clear hK K' hW3 hm3 hA2 hB2 hP2 hQ2 hb2 f0 e0 f1 e1 f2 e2 f3 e3 f4 e4 f5 e5 f6 e6 f7 e7 f8 e8
      have f0 := Blk.free hQ3 0
      have f1 := Blk.free hQ3 1
      have f2 := Blk.free hQ3 2
      have f3 := Blk.free hQ3 3
      have f4 := Blk.free hQ3 4
      have f5 := Blk.free hQ3 5
      have f6 := Blk.free hQ3 6
      have f7 := Blk.free hQ3 7
      have f8 := Blk.free hQ3 8
      obtain ⟨e0, e1, e2, e3, e4, e5, e6, e7, e8⟩ := Blk.c9_ hQ3
      refine wpAnyH_ready (rs := [7]) (by kernel_rfl) (by simp) (AllReadyH.cons rfl (fun K' hK => ?_) AllReadyH.nil)
      go_simp
      generalize hW4 : (((((((((W3).setCell ⟨W0.heap.size, 0, none⟩ (.int .i64 ak')).setCell ⟨W0.heap.size, 1, none⟩ (.int .i64 ek')).setCell ⟨W0.heap.size, 2, none⟩ (.int .i64 ec')).setCell ⟨W0.heap.size, 3, none⟩ (.int .i64 es')).setCell ⟨W0.heap.size, 4, none⟩ (.string sql')).setCell ⟨W0.heap.size, 5, none⟩ (.slice qa ps'.length qc)).setCell ⟨W0.heap.size, 6, none⟩ (.int .i64 n')).setCell ⟨W0.heap.size, 7, none⟩ (.bool lg')).setCell ⟨W0.heap.size, 8, none⟩ (.slice da ch'.length dc) = W4
      have hm4 : Moved (W0.heap.size) W3 W4 := by rw [← hW4]; exact (((((((((Moved.set (W0.heap.size) 0 _ _).trans (Moved.set (W0.heap.size) 1 _ _)).trans (Moved.set (W0.heap.size) 2 _ _)).trans (Moved.set (W0.heap.size) 3 _ _)).trans (Moved.set (W0.heap.size) 4 _ _)).trans (Moved.set (W0.heap.size) 5 _ _)).trans (Moved.set (W0.heap.size) 6 _ _)).trans (Moved.set (W0.heap.size) 7 _ _)).trans (Moved.set (W0.heap.size) 8 _ _))
      have hQ4 : Blk W4 (W0.heap.size) #[.int .i64 ak', .int .i64 ek', .int .i64 ec', .int .i64 es', .string sql', .slice qa ps'.length qc, .int .i64 n', .bool lg', .slice da ch'.length dc] 45 := by rw [← hW4]; exact Blk.set9_ hQ3
      have hP4 : Blk W4 (W0.heap.size + 1) #[.int .i64 ak, .int .i64 ek, .int .i64 ec, .int .i64 es, .string sql, .slice pa ps.length pc, .int .i64 n, .bool lg, .slice ca ch.length cc] 45 := Blk.moved hP3 hm4 (by omega)
      have hA4 := Blk.moved hA3 hm4 (by omega)
      have hB4 := Blk.moved hB3 hm4 (by omega)
      have hb4 : Below w.heap.size w W4 := below_over hb3 hm4 (by have := hp0; have := hp1; omega) (Nat.le_refl _)
      refine hK.out _ _ ⟨hA4, hB4⟩ (fun _ => ?_)
      clear hK K' hW4 hm4 hA3 hB3 hP3 hQ3 hb3 f0 e0 f1 e1 f2 e2 f3 e3 f4 e4 f5 e5 f6 e6 f7 e7 f8 e8
      refine wpAnyH_done (by kernel_rfl) ?_ _
      have hpp : w.heap.size ≤ W0.heap.size + 1 := by omega
      have hqq : w.heap.size ≤ W0.heap.size := by omega
      generalize W0.heap.size + 1 = p at hP4 hpp ⊢
      generalize W0.heap.size = q at hQ4 hqq ⊢
      exact hk.out W4 p q ⟨hb4, hP4, hQ4, hA4, hB4, hpp, hqq⟩
  · intro W p q hH
    obtain ⟨hbw, hP, hQ, hA, hB, -⟩ := hH
    have HBw := Lib.hid hbw
    have HPQ := Lib.hid (And.intro hP hQ)
    obtain ⟨a0, -, -, -, -, -, -, -, -, -, a10, a11⟩ := Blk.c12 hA
    obtain ⟨b0, -, -, -, -, -, -, -, -, -, b10, b11⟩ := Blk.c12 hB
    clear hbw hP hQ hA hB hA0 hB0
    cases h1 : (k == k') with
    | false =>
      clear hyp a10 a11 b10 b11
      have HX : Hid (R = false) := Lib.hid (by rw [HC.out]; simp [h1])
      clear HC
      go_wp2_with (first
        | (go_at_call 106; refine (HT.out _ HBw.out).mono ?_; rintro e w1 ⟨rfl, hb1⟩; have HB1 := Lib.hid (bthn HBw.out hb1))
        | (go_at_call 109; refine (HI.out _ HB1.out).mono ?_; rintro e w2 ⟨rfl, hb2⟩; have HB2 := Lib.hid (bthn HB1.out hb2); have hb12 := bthn hb1 hb2; obtain ⟨p0, p1, p2, p3, p4, p5, p6, p7, p8⟩ := Blk.c9_ (Blk.below HPQ.out.1 hb12); obtain ⟨q0, q1, q2, q3, q4, q5, q6, q7, q8⟩ := Blk.c9_ (Blk.below HPQ.out.2 hb12))
        | (go_at_call 108; refine (HP.out _ HB2.out).mono ?_; rintro e w3 ⟨rfl, hb3⟩; have HB3 := Lib.hid (bthn HB2.out hb3)))
      go_ret
      rw [HX.out]
      first
        | exact ⟨rfl, HB3.out⟩
        | exact ⟨rfl, HB2.out⟩
        | exact ⟨rfl, HB1.out⟩
        | exact ⟨rfl, HBw.out⟩
    | true =>
      cases h2 : (cn == cn') with
      | false =>
        clear hyp a11 b11
        have HX : Hid (R = false) := Lib.hid (by rw [HC.out]; simp [h2])
        clear HC
        go_wp2_with (first
          | (go_at_call 106; refine (HT.out _ HBw.out).mono ?_; rintro e w1 ⟨rfl, hb1⟩; have HB1 := Lib.hid (bthn HBw.out hb1))
          | (go_at_call 109; refine (HI.out _ HB1.out).mono ?_; rintro e w2 ⟨rfl, hb2⟩; have HB2 := Lib.hid (bthn HB1.out hb2); have hb12 := bthn hb1 hb2; obtain ⟨p0, p1, p2, p3, p4, p5, p6, p7, p8⟩ := Blk.c9_ (Blk.below HPQ.out.1 hb12); obtain ⟨q0, q1, q2, q3, q4, q5, q6, q7, q8⟩ := Blk.c9_ (Blk.below HPQ.out.2 hb12))
          | (go_at_call 108; refine (HP.out _ HB2.out).mono ?_; rintro e w3 ⟨rfl, hb3⟩; have HB3 := Lib.hid (bthn HB2.out hb3)))
        go_ret
        rw [HX.out]
        first
          | exact ⟨rfl, HB3.out⟩
          | exact ⟨rfl, HB2.out⟩
          | exact ⟨rfl, HB1.out⟩
          | exact ⟨rfl, HBw.out⟩
      | true =>
        have h3 : bt = false := by rw [h1, h2] at hyp; simpa using hyp
        clear hyp
        subst h3
        have HX : Hid (R = false) := Lib.hid (by rw [HC.out]; simp [h2])
        clear HC
        go_wp2_with (first
          | (go_at_call 106; refine (HT.out _ HBw.out).mono ?_; rintro e w1 ⟨rfl, hb1⟩; have HB1 := Lib.hid (bthn HBw.out hb1))
          | (go_at_call 109; refine (HI.out _ HB1.out).mono ?_; rintro e w2 ⟨rfl, hb2⟩; have HB2 := Lib.hid (bthn HB1.out hb2); have hb12 := bthn hb1 hb2; obtain ⟨p0, p1, p2, p3, p4, p5, p6, p7, p8⟩ := Blk.c9_ (Blk.below HPQ.out.1 hb12); obtain ⟨q0, q1, q2, q3, q4, q5, q6, q7, q8⟩ := Blk.c9_ (Blk.below HPQ.out.2 hb12))
          | (go_at_call 108; refine (HP.out _ HB2.out).mono ?_; rintro e w3 ⟨rfl, hb3⟩; have HB3 := Lib.hid (bthn HB2.out hb3)))
        go_ret
        rw [HX.out]
        first
          | exact ⟨rfl, HB3.out⟩
          | exact ⟨rfl, HB2.out⟩
          | exact ⟨rfl, HB1.out⟩
          | exact ⟨rfl, HBw.out⟩
end Go.Proofs.YtkkildkleleppaaGreatDoor
namespace Go.Proofs.YtkkildkleleppaaGreatDoor
open Go.RowKit


set_option maxRecDepth 100000 in
set_option maxHeartbeats 8000000 in
theorem ssame_B (u v : Value) (a b : C) (e1 : (a.k == b.k) = true) (e2 : (a.conn == b.conn) = true) (e3 : sameTs a.told b.told = true) (hyp : ((a.ak == b.ak) && (a.n == b.n) && (a.log == b.log)) = false) (la : LenC a) (lb : LenC b) (w : World) (h : IsC w u a) (h' : IsC w v b) : Calls Tryz.prog 53 #[u, v] w (Ret w (.bool (sameC a b))) := by
  obtain ⟨pa, pc, ca, cc, ta, tc, rfl, -, -, -, h1, h2, h3⟩ := h
  obtain ⟨qa, qc, da, dc, sa, sc, rfl, -, -, -, k1, k2, k3⟩ := h'
  have HI := Lib.hid (fun w' hb => iequal_any ca a.ch.length cc a.ch rfl da b.ch.length dc b.ch rfl la.ch lb.ch w' (h2.below hb) (k2.below hb))
  have HT := Lib.hid (fun w' hb => tequal_any ta a.told.length tc a.told rfl sa b.told.length sc b.told rfl la.tl lb.tl la.tp lb.tp w' (h3.below hb) (k3.below hb))
  have HP := Lib.hid (fun w' hb => vequal_any pa a.ps.length pc a.ps rfl qa b.ps.length qc b.ps rfl la.ps lb.ps w' (h1.below hb) (k1.below hb))
  clear h1 h2 h3 k1 k2 k3 la lb
  obtain ⟨R, hR⟩ : ∃ R, sameC a b = R := ⟨_, rfl⟩
  rw [hR]
  obtain ⟨k, ak, ek, ec, es, sql, ps, n, lg, ch, cn, td⟩ := a
  obtain ⟨k', ak', ek', ec', es', sql', ps', n', lg', ch', cn', td'⟩ := b
  have HC : Hid (R = (k == k' && cn == cn' && ak == ak' && n == n' && lg == lg' && sameIs ch ch' && sameTs td td' && (ek == ek' && ec == ec' && es == es' && sql.data.toList == sql'.data.toList && sameVs ps ps'))) := Lib.hid hR.symm
  clear hR
  simp only [C.val, cmdV] at HI HT HP ⊢
  simp only at e1 e2 e3 hyp
  rw [e3] at HT HC
  clear e3
  generalize sameIs ch ch' = bi at HI HC
  generalize sameVs ps ps' = bp at HP HC
  go_enter Tryz.func53, Tryz.ntmps53
  go_upto_region 1 with fail
  generalize hW0 : (w.alloc (Obj.cells #[.int .i64 k, .int .i64 ak, .int .i64 ek, .int .i64 ec, .int .i64 es, .string sql, .slice pa ps.length pc, .int .i64 n, .bool lg, .slice ca ch.length cc, .int .i64 cn, .slice ta td.length tc] 47)).alloc (Obj.cells #[.int .i64 k', .int .i64 ak', .int .i64 ek', .int .i64 ec', .int .i64 es', .string sql', .slice qa ps'.length qc, .int .i64 n', .bool lg', .slice da ch'.length dc, .int .i64 cn', .slice sa td'.length sc] 47) = W0
  have hs1 : (w.alloc (Obj.cells #[.int .i64 k, .int .i64 ak, .int .i64 ek, .int .i64 ec, .int .i64 es, .string sql, .slice pa ps.length pc, .int .i64 n, .bool lg, .slice ca ch.length cc, .int .i64 cn, .slice ta td.length tc] 47)).heap.size = w.heap.size + 1 := by simp
  have hA0 : Blk W0 w.heap.size #[.int .i64 k, .int .i64 ak, .int .i64 ek, .int .i64 ec, .int .i64 es, .string sql, .slice pa ps.length pc, .int .i64 n, .bool lg, .slice ca ch.length cc, .int .i64 cn, .slice ta td.length tc] 47 := by rw [← hW0]; exact Blk.alloc (Blk.new _ _ _) _
  have hB0 : Blk W0 (w.heap.size + 1) #[.int .i64 k', .int .i64 ak', .int .i64 ek', .int .i64 ec', .int .i64 es', .string sql', .slice qa ps'.length qc, .int .i64 n', .bool lg', .slice da ch'.length dc, .int .i64 cn', .slice sa td'.length sc] 47 := by rw [← hW0]; have := Blk.new (w.alloc (Obj.cells #[.int .i64 k, .int .i64 ak, .int .i64 ek, .int .i64 ec, .int .i64 es, .string sql, .slice pa ps.length pc, .int .i64 n, .bool lg, .slice ca ch.length cc, .int .i64 cn, .slice ta td.length tc] 47)) #[.int .i64 k', .int .i64 ak', .int .i64 ek', .int .i64 ec', .int .i64 es', .string sql', .slice qa ps'.length qc, .int .i64 n', .bool lg', .slice da ch'.length dc, .int .i64 cn', .slice sa td'.length sc] 47; rw [hs1] at this; exact this
  have hbw : Below w.heap.size w W0 := by rw [← hW0]; exact (below_alloc _ _).alloc (by simp) _
  clear hs1 hW0
  apply of_key (H := fun W p q => Below w.heap.size w W ∧ Blk W p #[.int .i64 ak, .int .i64 ek, .int .i64 ec, .int .i64 es, .string sql, .slice pa ps.length pc, .int .i64 n, .bool lg, .slice ca ch.length cc] 45 ∧ Blk W q #[.int .i64 ak', .int .i64 ek', .int .i64 ec', .int .i64 es', .string sql', .slice qa ps'.length qc, .int .i64 n', .bool lg', .slice da ch'.length dc] 45 ∧ Blk W w.heap.size #[.int .i64 k, .int .i64 ak, .int .i64 ek, .int .i64 ec, .int .i64 es, .string sql, .slice pa ps.length pc, .int .i64 n, .bool lg, .slice ca ch.length cc, .int .i64 cn, .slice ta td.length tc] 47 ∧ Blk W (w.heap.size + 1) #[.int .i64 k', .int .i64 ak', .int .i64 ek', .int .i64 ec', .int .i64 es', .string sql', .slice qa ps'.length qc, .int .i64 n', .bool lg', .slice da ch'.length dc, .int .i64 cn', .slice sa td'.length sc] 47 ∧ (w.heap.size ≤ p ∧ w.heap.size ≤ q))
  · intro key
    have hk := Lib.hid key
    clear key
    refine wp_region_held_drew (S := fun w' => Blk w' (w.heap.size) #[.int .i64 k, .int .i64 ak, .int .i64 ek, .int .i64 ec, .int .i64 es, .string sql, .slice pa ps.length pc, .int .i64 n, .bool lg, .slice ca ch.length cc, .int .i64 cn, .slice ta td.length tc] 47 ∧ Blk w' (w.heap.size + 1) #[.int .i64 k', .int .i64 ak', .int .i64 ek', .int .i64 ec', .int .i64 es', .string sql', .slice qa ps'.length qc, .int .i64 n', .bool lg', .slice da ch'.length dc, .int .i64 cn', .slice sa td'.length sc] 47) (by kernel_rfl) ⟨hA0, hB0⟩ (fun hHeld => ?_)
    (refine wpAnyH_take (i := 0) (v := (.pointer (some ⟨w.heap.size, 1, none⟩))) rfl (by kernel_rfl) (by kernel_rfl) (by kernel_rfl) (fun _ _ _ h => h) (Or.inl ⟨by rfl, by intro w hSw; obtain ⟨y0, y1, y2, y3, y4, y5, y6, y7, y8, y9, y10, y11⟩ := Blk.c12 hSw.1; obtain ⟨z0, z1, z2, z3, z4, z5, z6, z7, z8, z9, z10, z11⟩ := Blk.c12 hSw.2; clear hSw; go_simp; try with_reducible rfl⟩) (by assumption) ?_; simp only [List.getElem_toArray, List.getElem_cons_zero, Act.put, List.setIfInBounds_toArray, List.set_cons_succ, List.set_cons_zero])
    (refine wpAnyH_take (i := 1) (v := (.agg #[.int .i64 ak, .int .i64 ek, .int .i64 ec, .int .i64 es, .string sql, .slice pa ps.length pc, .int .i64 n, .bool lg, .slice ca ch.length cc])) rfl (by kernel_rfl) (by kernel_rfl) (by kernel_rfl) (fun _ _ _ h => h) (Or.inl ⟨by rfl, by intro w hSw; obtain ⟨y0, y1, y2, y3, y4, y5, y6, y7, y8, y9, y10, y11⟩ := Blk.c12 hSw.1; obtain ⟨z0, z1, z2, z3, z4, z5, z6, z7, z8, z9, z10, z11⟩ := Blk.c12 hSw.2; clear hSw; go_simp; try with_reducible rfl⟩) (by assumption) ?_; simp only [List.getElem_toArray, List.getElem_cons_succ, List.getElem_cons_zero, Act.put, List.setIfInBounds_toArray, List.set_cons_succ, List.set_cons_zero])
    (refine wpAnyH_take (i := 2) (v := (.pointer (some ⟨w.heap.size + 1, 1, none⟩))) rfl (by kernel_rfl) (by kernel_rfl) (by kernel_rfl) (fun _ _ _ h => h) (Or.inl ⟨by rfl, by intro w hSw; obtain ⟨y0, y1, y2, y3, y4, y5, y6, y7, y8, y9, y10, y11⟩ := Blk.c12 hSw.1; obtain ⟨z0, z1, z2, z3, z4, z5, z6, z7, z8, z9, z10, z11⟩ := Blk.c12 hSw.2; clear hSw; go_simp; try with_reducible rfl⟩) (by assumption) ?_; simp only [List.getElem_toArray, List.getElem_cons_succ, List.getElem_cons_zero, Act.put, List.setIfInBounds_toArray, List.set_cons_succ, List.set_cons_zero])
    (refine wpAnyH_take (i := 3) (v := (.agg #[.int .i64 ak', .int .i64 ek', .int .i64 ec', .int .i64 es', .string sql', .slice qa ps'.length qc, .int .i64 n', .bool lg', .slice da ch'.length dc])) rfl (by kernel_rfl) (by kernel_rfl) (by kernel_rfl) (fun _ _ _ h => h) (Or.inl ⟨by rfl, by intro w hSw; obtain ⟨y0, y1, y2, y3, y4, y5, y6, y7, y8, y9, y10, y11⟩ := Blk.c12 hSw.1; obtain ⟨z0, z1, z2, z3, z4, z5, z6, z7, z8, z9, z10, z11⟩ := Blk.c12 hSw.2; clear hSw; go_simp; try with_reducible rfl⟩) (by assumption) ?_; simp only [List.getElem_toArray, List.getElem_cons_succ, List.getElem_cons_zero, Act.put, List.setIfInBounds_toArray, List.set_cons_succ, List.set_cons_zero])
    clear hHeld
    have hp0 : w.heap.size < W0.heap.size := Blk.lt hA0
    have hp1 : w.heap.size + 1 < W0.heap.size := Blk.lt hB0
    have hz1 : (W0.alloc (Obj.cells #[.int .i64 0, .int .i64 0, .int .i64 0, .int .i64 0, .string ⟨#[]⟩, .slice none 0 0, .int .i64 0, .bool false, .slice none 0 0] 45)).heap.size = W0.heap.size + 1 := by simp
    have hA1 : Blk (W0.alloc (Obj.cells #[.int .i64 0, .int .i64 0, .int .i64 0, .int .i64 0, .string ⟨#[]⟩, .slice none 0 0, .int .i64 0, .bool false, .slice none 0 0] 45)).drew (w.heap.size) #[.int .i64 k, .int .i64 ak, .int .i64 ek, .int .i64 ec, .int .i64 es, .string sql, .slice pa ps.length pc, .int .i64 n, .bool lg, .slice ca ch.length cc, .int .i64 cn, .slice ta td.length tc] 47 := Blk.drew (Blk.alloc hA0 _)
    have hB1 : Blk (W0.alloc (Obj.cells #[.int .i64 0, .int .i64 0, .int .i64 0, .int .i64 0, .string ⟨#[]⟩, .slice none 0 0, .int .i64 0, .bool false, .slice none 0 0] 45)).drew (w.heap.size + 1) #[.int .i64 k', .int .i64 ak', .int .i64 ek', .int .i64 ec', .int .i64 es', .string sql', .slice qa ps'.length qc, .int .i64 n', .bool lg', .slice da ch'.length dc, .int .i64 cn', .slice sa td'.length sc] 47 := Blk.drew (Blk.alloc hB0 _)
    have hA2 : Blk ((W0.alloc (Obj.cells #[.int .i64 0, .int .i64 0, .int .i64 0, .int .i64 0, .string ⟨#[]⟩, .slice none 0 0, .int .i64 0, .bool false, .slice none 0 0] 45)).alloc (Obj.cells #[.int .i64 0, .int .i64 0, .int .i64 0, .int .i64 0, .string ⟨#[]⟩, .slice none 0 0, .int .i64 0, .bool false, .slice none 0 0] 45)).drew (w.heap.size) #[.int .i64 k, .int .i64 ak, .int .i64 ek, .int .i64 ec, .int .i64 es, .string sql, .slice pa ps.length pc, .int .i64 n, .bool lg, .slice ca ch.length cc, .int .i64 cn, .slice ta td.length tc] 47 := Blk.drew (Blk.alloc (Blk.alloc hA0 _) _)
    have hB2 : Blk ((W0.alloc (Obj.cells #[.int .i64 0, .int .i64 0, .int .i64 0, .int .i64 0, .string ⟨#[]⟩, .slice none 0 0, .int .i64 0, .bool false, .slice none 0 0] 45)).alloc (Obj.cells #[.int .i64 0, .int .i64 0, .int .i64 0, .int .i64 0, .string ⟨#[]⟩, .slice none 0 0, .int .i64 0, .bool false, .slice none 0 0] 45)).drew (w.heap.size + 1) #[.int .i64 k', .int .i64 ak', .int .i64 ek', .int .i64 ec', .int .i64 es', .string sql', .slice qa ps'.length qc, .int .i64 n', .bool lg', .slice da ch'.length dc, .int .i64 cn', .slice sa td'.length sc] 47 := Blk.drew (Blk.alloc (Blk.alloc hB0 _) _)
    have hP2 : Blk ((W0.alloc (Obj.cells #[.int .i64 0, .int .i64 0, .int .i64 0, .int .i64 0, .string ⟨#[]⟩, .slice none 0 0, .int .i64 0, .bool false, .slice none 0 0] 45)).alloc (Obj.cells #[.int .i64 0, .int .i64 0, .int .i64 0, .int .i64 0, .string ⟨#[]⟩, .slice none 0 0, .int .i64 0, .bool false, .slice none 0 0] 45)).drew W0.heap.size #[.int .i64 0, .int .i64 0, .int .i64 0, .int .i64 0, .string ⟨#[]⟩, .slice none 0 0, .int .i64 0, .bool false, .slice none 0 0] 45 := Blk.drew (Blk.alloc (Blk.new _ _ _) _)
    have hQ2 : Blk ((W0.alloc (Obj.cells #[.int .i64 0, .int .i64 0, .int .i64 0, .int .i64 0, .string ⟨#[]⟩, .slice none 0 0, .int .i64 0, .bool false, .slice none 0 0] 45)).alloc (Obj.cells #[.int .i64 0, .int .i64 0, .int .i64 0, .int .i64 0, .string ⟨#[]⟩, .slice none 0 0, .int .i64 0, .bool false, .slice none 0 0] 45)).drew (W0.heap.size + 1) #[.int .i64 0, .int .i64 0, .int .i64 0, .int .i64 0, .string ⟨#[]⟩, .slice none 0 0, .int .i64 0, .bool false, .slice none 0 0] 45 := by have h := Blk.new (W0.alloc (Obj.cells #[.int .i64 0, .int .i64 0, .int .i64 0, .int .i64 0, .string ⟨#[]⟩, .slice none 0 0, .int .i64 0, .bool false, .slice none 0 0] 45)) #[.int .i64 0, .int .i64 0, .int .i64 0, .int .i64 0, .string ⟨#[]⟩, .slice none 0 0, .int .i64 0, .bool false, .slice none 0 0] 45; rw [hz1] at h; exact Blk.drew h
    have hb2 : Below w.heap.size w ((W0.alloc (Obj.cells #[.int .i64 0, .int .i64 0, .int .i64 0, .int .i64 0, .string ⟨#[]⟩, .slice none 0 0, .int .i64 0, .bool false, .slice none 0 0] 45)).alloc (Obj.cells #[.int .i64 0, .int .i64 0, .int .i64 0, .int .i64 0, .string ⟨#[]⟩, .slice none 0 0, .int .i64 0, .bool false, .slice none 0 0] 45)).drew := below_drew ((hbw.alloc hbw.size _).alloc (by have := hbw.size; simp; omega) _)
    clear hz1
    refine wpAnyH_ready (rs := [4, 5]) (by kernel_rfl) (by simp) (AllReadyH.cons rfl (fun K' hK => ?_) (AllReadyH.cons rfl (fun K' hK => ?_) AllReadyH.nil))
    · go_simp
      refine hK.out _ _ ⟨hA1, hB1⟩ (fun _ => ?_)
      clear hK K'
      refine wpAnyH_ready (rs := [5]) (by kernel_rfl) (by simp) (AllReadyH.cons rfl (fun K' hK => ?_) AllReadyH.nil)
      go_simp
      generalize hW2 : ((W0.alloc (Obj.cells #[.int .i64 0, .int .i64 0, .int .i64 0, .int .i64 0, .string ⟨#[]⟩, .slice none 0 0, .int .i64 0, .bool false, .slice none 0 0] 45)).alloc (Obj.cells #[.int .i64 0, .int .i64 0, .int .i64 0, .int .i64 0, .string ⟨#[]⟩, .slice none 0 0, .int .i64 0, .bool false, .slice none 0 0] 45)).drew = W2 at hA2 hB2 hP2 hQ2 hb2 ⊢
      refine hK.out _ _ ⟨hA2, hB2⟩ (fun _ => ?_)
      clear hK K' hW2 hA1 hB1
      have f0 := Blk.free hP2 0
      have f1 := Blk.free hP2 1
      have f2 := Blk.free hP2 2
      have f3 := Blk.free hP2 3
      have f4 := Blk.free hP2 4
      have f5 := Blk.free hP2 5
      have f6 := Blk.free hP2 6
      have f7 := Blk.free hP2 7
      have f8 := Blk.free hP2 8
      obtain ⟨e0, e1, e2, e3, e4, e5, e6, e7, e8⟩ := Blk.c9_ hP2
      refine wpAnyH_ready (rs := [6]) (by kernel_rfl) (by simp) (AllReadyH.cons rfl (fun K' hK => ?_) AllReadyH.nil)
      go_simp
      generalize hW3 : (((((((((W2).setCell ⟨W0.heap.size, 0, none⟩ (.int .i64 ak)).setCell ⟨W0.heap.size, 1, none⟩ (.int .i64 ek)).setCell ⟨W0.heap.size, 2, none⟩ (.int .i64 ec)).setCell ⟨W0.heap.size, 3, none⟩ (.int .i64 es)).setCell ⟨W0.heap.size, 4, none⟩ (.string sql)).setCell ⟨W0.heap.size, 5, none⟩ (.slice pa ps.length pc)).setCell ⟨W0.heap.size, 6, none⟩ (.int .i64 n)).setCell ⟨W0.heap.size, 7, none⟩ (.bool lg)).setCell ⟨W0.heap.size, 8, none⟩ (.slice ca ch.length cc) = W3
      have hm3 : Moved (W0.heap.size) W2 W3 := by rw [← hW3]; exact (((((((((Moved.set (W0.heap.size) 0 _ _).trans (Moved.set (W0.heap.size) 1 _ _)).trans (Moved.set (W0.heap.size) 2 _ _)).trans (Moved.set (W0.heap.size) 3 _ _)).trans (Moved.set (W0.heap.size) 4 _ _)).trans (Moved.set (W0.heap.size) 5 _ _)).trans (Moved.set (W0.heap.size) 6 _ _)).trans (Moved.set (W0.heap.size) 7 _ _)).trans (Moved.set (W0.heap.size) 8 _ _))
      have hP3 : Blk W3 (W0.heap.size) #[.int .i64 ak, .int .i64 ek, .int .i64 ec, .int .i64 es, .string sql, .slice pa ps.length pc, .int .i64 n, .bool lg, .slice ca ch.length cc] 45 := by rw [← hW3]; exact Blk.set9_ hP2
      have hQ3 : Blk W3 (W0.heap.size + 1) #[.int .i64 0, .int .i64 0, .int .i64 0, .int .i64 0, .string ⟨#[]⟩, .slice none 0 0, .int .i64 0, .bool false, .slice none 0 0] 45 := Blk.moved hQ2 hm3 (by omega)
      have hA3 := Blk.moved hA2 hm3 (by omega)
      have hB3 := Blk.moved hB2 hm3 (by omega)
      have hb3 : Below w.heap.size w W3 := below_over hb2 hm3 (by have := hp0; have := hp1; omega) (Nat.le_refl _)
      refine hK.out _ _ ⟨hA3, hB3⟩ (fun _ => ?_)
      clear hK K' hW3 hm3 hA2 hB2 hP2 hQ2 hb2 f0 e0 f1 e1 f2 e2 f3 e3 f4 e4 f5 e5 f6 e6 f7 e7 f8 e8
      have f0 := Blk.free hQ3 0
      have f1 := Blk.free hQ3 1
      have f2 := Blk.free hQ3 2
      have f3 := Blk.free hQ3 3
      have f4 := Blk.free hQ3 4
      have f5 := Blk.free hQ3 5
      have f6 := Blk.free hQ3 6
      have f7 := Blk.free hQ3 7
      have f8 := Blk.free hQ3 8
      obtain ⟨e0, e1, e2, e3, e4, e5, e6, e7, e8⟩ := Blk.c9_ hQ3
      refine wpAnyH_ready (rs := [7]) (by kernel_rfl) (by simp) (AllReadyH.cons rfl (fun K' hK => ?_) AllReadyH.nil)
      go_simp
      generalize hW4 : (((((((((W3).setCell ⟨W0.heap.size + 1, 0, none⟩ (.int .i64 ak')).setCell ⟨W0.heap.size + 1, 1, none⟩ (.int .i64 ek')).setCell ⟨W0.heap.size + 1, 2, none⟩ (.int .i64 ec')).setCell ⟨W0.heap.size + 1, 3, none⟩ (.int .i64 es')).setCell ⟨W0.heap.size + 1, 4, none⟩ (.string sql')).setCell ⟨W0.heap.size + 1, 5, none⟩ (.slice qa ps'.length qc)).setCell ⟨W0.heap.size + 1, 6, none⟩ (.int .i64 n')).setCell ⟨W0.heap.size + 1, 7, none⟩ (.bool lg')).setCell ⟨W0.heap.size + 1, 8, none⟩ (.slice da ch'.length dc) = W4
      have hm4 : Moved (W0.heap.size + 1) W3 W4 := by rw [← hW4]; exact (((((((((Moved.set (W0.heap.size + 1) 0 _ _).trans (Moved.set (W0.heap.size + 1) 1 _ _)).trans (Moved.set (W0.heap.size + 1) 2 _ _)).trans (Moved.set (W0.heap.size + 1) 3 _ _)).trans (Moved.set (W0.heap.size + 1) 4 _ _)).trans (Moved.set (W0.heap.size + 1) 5 _ _)).trans (Moved.set (W0.heap.size + 1) 6 _ _)).trans (Moved.set (W0.heap.size + 1) 7 _ _)).trans (Moved.set (W0.heap.size + 1) 8 _ _))
      have hQ4 : Blk W4 (W0.heap.size + 1) #[.int .i64 ak', .int .i64 ek', .int .i64 ec', .int .i64 es', .string sql', .slice qa ps'.length qc, .int .i64 n', .bool lg', .slice da ch'.length dc] 45 := by rw [← hW4]; exact Blk.set9_ hQ3
      have hP4 : Blk W4 (W0.heap.size) #[.int .i64 ak, .int .i64 ek, .int .i64 ec, .int .i64 es, .string sql, .slice pa ps.length pc, .int .i64 n, .bool lg, .slice ca ch.length cc] 45 := Blk.moved hP3 hm4 (by omega)
      have hA4 := Blk.moved hA3 hm4 (by omega)
      have hB4 := Blk.moved hB3 hm4 (by omega)
      have hb4 : Below w.heap.size w W4 := below_over hb3 hm4 (by have := hp0; have := hp1; omega) (Nat.le_refl _)
      refine hK.out _ _ ⟨hA4, hB4⟩ (fun _ => ?_)
      clear hK K' hW4 hm4 hA3 hB3 hP3 hQ3 hb3 f0 e0 f1 e1 f2 e2 f3 e3 f4 e4 f5 e5 f6 e6 f7 e7 f8 e8
      refine wpAnyH_done (by kernel_rfl) ?_ _
      have hpp : w.heap.size ≤ W0.heap.size := by omega
      have hqq : w.heap.size ≤ W0.heap.size + 1 := by omega
      generalize W0.heap.size + 1 = q at hQ4 hqq ⊢
      generalize W0.heap.size = p at hP4 hpp ⊢
      exact hk.out W4 p q ⟨hb4, hP4, hQ4, hA4, hB4, hpp, hqq⟩
    · go_simp
      refine hK.out _ _ ⟨hA1, hB1⟩ (fun _ => ?_)
      clear hK K'
      refine wpAnyH_ready (rs := [4]) (by kernel_rfl) (by simp) (AllReadyH.cons rfl (fun K' hK => ?_) AllReadyH.nil)
      go_simp
      generalize hW2 : ((W0.alloc (Obj.cells #[.int .i64 0, .int .i64 0, .int .i64 0, .int .i64 0, .string ⟨#[]⟩, .slice none 0 0, .int .i64 0, .bool false, .slice none 0 0] 45)).alloc (Obj.cells #[.int .i64 0, .int .i64 0, .int .i64 0, .int .i64 0, .string ⟨#[]⟩, .slice none 0 0, .int .i64 0, .bool false, .slice none 0 0] 45)).drew = W2 at hA2 hB2 hP2 hQ2 hb2 ⊢
      refine hK.out _ _ ⟨hA2, hB2⟩ (fun _ => ?_)
      clear hK K' hW2 hA1 hB1
      have f0 := Blk.free hQ2 0
      have f1 := Blk.free hQ2 1
      have f2 := Blk.free hQ2 2
      have f3 := Blk.free hQ2 3
      have f4 := Blk.free hQ2 4
      have f5 := Blk.free hQ2 5
      have f6 := Blk.free hQ2 6
      have f7 := Blk.free hQ2 7
      have f8 := Blk.free hQ2 8
      obtain ⟨e0, e1, e2, e3, e4, e5, e6, e7, e8⟩ := Blk.c9_ hQ2
      refine wpAnyH_ready (rs := [6]) (by kernel_rfl) (by simp) (AllReadyH.cons rfl (fun K' hK => ?_) AllReadyH.nil)
      go_simp
      generalize hW3 : (((((((((W2).setCell ⟨W0.heap.size + 1, 0, none⟩ (.int .i64 ak)).setCell ⟨W0.heap.size + 1, 1, none⟩ (.int .i64 ek)).setCell ⟨W0.heap.size + 1, 2, none⟩ (.int .i64 ec)).setCell ⟨W0.heap.size + 1, 3, none⟩ (.int .i64 es)).setCell ⟨W0.heap.size + 1, 4, none⟩ (.string sql)).setCell ⟨W0.heap.size + 1, 5, none⟩ (.slice pa ps.length pc)).setCell ⟨W0.heap.size + 1, 6, none⟩ (.int .i64 n)).setCell ⟨W0.heap.size + 1, 7, none⟩ (.bool lg)).setCell ⟨W0.heap.size + 1, 8, none⟩ (.slice ca ch.length cc) = W3
      have hm3 : Moved (W0.heap.size + 1) W2 W3 := by rw [← hW3]; exact (((((((((Moved.set (W0.heap.size + 1) 0 _ _).trans (Moved.set (W0.heap.size + 1) 1 _ _)).trans (Moved.set (W0.heap.size + 1) 2 _ _)).trans (Moved.set (W0.heap.size + 1) 3 _ _)).trans (Moved.set (W0.heap.size + 1) 4 _ _)).trans (Moved.set (W0.heap.size + 1) 5 _ _)).trans (Moved.set (W0.heap.size + 1) 6 _ _)).trans (Moved.set (W0.heap.size + 1) 7 _ _)).trans (Moved.set (W0.heap.size + 1) 8 _ _))
      have hP3 : Blk W3 (W0.heap.size + 1) #[.int .i64 ak, .int .i64 ek, .int .i64 ec, .int .i64 es, .string sql, .slice pa ps.length pc, .int .i64 n, .bool lg, .slice ca ch.length cc] 45 := by rw [← hW3]; exact Blk.set9_ hQ2
      have hQ3 : Blk W3 (W0.heap.size) #[.int .i64 0, .int .i64 0, .int .i64 0, .int .i64 0, .string ⟨#[]⟩, .slice none 0 0, .int .i64 0, .bool false, .slice none 0 0] 45 := Blk.moved hP2 hm3 (by omega)
      have hA3 := Blk.moved hA2 hm3 (by omega)
      have hB3 := Blk.moved hB2 hm3 (by omega)
      have hb3 : Below w.heap.size w W3 := below_over hb2 hm3 (by have := hp0; have := hp1; omega) (Nat.le_refl _)
      refine hK.out _ _ ⟨hA3, hB3⟩ (fun _ => ?_)
      clear hK K' hW3 hm3 hA2 hB2 hP2 hQ2 hb2 f0 e0 f1 e1 f2 e2 f3 e3 f4 e4 f5 e5 f6 e6 f7 e7 f8 e8
      have f0 := Blk.free hQ3 0
      have f1 := Blk.free hQ3 1
      have f2 := Blk.free hQ3 2
      have f3 := Blk.free hQ3 3
      have f4 := Blk.free hQ3 4
      have f5 := Blk.free hQ3 5
      have f6 := Blk.free hQ3 6
      have f7 := Blk.free hQ3 7
      have f8 := Blk.free hQ3 8
      obtain ⟨e0, e1, e2, e3, e4, e5, e6, e7, e8⟩ := Blk.c9_ hQ3
      refine wpAnyH_ready (rs := [7]) (by kernel_rfl) (by simp) (AllReadyH.cons rfl (fun K' hK => ?_) AllReadyH.nil)
      go_simp
      generalize hW4 : (((((((((W3).setCell ⟨W0.heap.size, 0, none⟩ (.int .i64 ak')).setCell ⟨W0.heap.size, 1, none⟩ (.int .i64 ek')).setCell ⟨W0.heap.size, 2, none⟩ (.int .i64 ec')).setCell ⟨W0.heap.size, 3, none⟩ (.int .i64 es')).setCell ⟨W0.heap.size, 4, none⟩ (.string sql')).setCell ⟨W0.heap.size, 5, none⟩ (.slice qa ps'.length qc)).setCell ⟨W0.heap.size, 6, none⟩ (.int .i64 n')).setCell ⟨W0.heap.size, 7, none⟩ (.bool lg')).setCell ⟨W0.heap.size, 8, none⟩ (.slice da ch'.length dc) = W4
      have hm4 : Moved (W0.heap.size) W3 W4 := by rw [← hW4]; exact (((((((((Moved.set (W0.heap.size) 0 _ _).trans (Moved.set (W0.heap.size) 1 _ _)).trans (Moved.set (W0.heap.size) 2 _ _)).trans (Moved.set (W0.heap.size) 3 _ _)).trans (Moved.set (W0.heap.size) 4 _ _)).trans (Moved.set (W0.heap.size) 5 _ _)).trans (Moved.set (W0.heap.size) 6 _ _)).trans (Moved.set (W0.heap.size) 7 _ _)).trans (Moved.set (W0.heap.size) 8 _ _))
      have hQ4 : Blk W4 (W0.heap.size) #[.int .i64 ak', .int .i64 ek', .int .i64 ec', .int .i64 es', .string sql', .slice qa ps'.length qc, .int .i64 n', .bool lg', .slice da ch'.length dc] 45 := by rw [← hW4]; exact Blk.set9_ hQ3
      have hP4 : Blk W4 (W0.heap.size + 1) #[.int .i64 ak, .int .i64 ek, .int .i64 ec, .int .i64 es, .string sql, .slice pa ps.length pc, .int .i64 n, .bool lg, .slice ca ch.length cc] 45 := Blk.moved hP3 hm4 (by omega)
      have hA4 := Blk.moved hA3 hm4 (by omega)
      have hB4 := Blk.moved hB3 hm4 (by omega)
      have hb4 : Below w.heap.size w W4 := below_over hb3 hm4 (by have := hp0; have := hp1; omega) (Nat.le_refl _)
      refine hK.out _ _ ⟨hA4, hB4⟩ (fun _ => ?_)
      clear hK K' hW4 hm4 hA3 hB3 hP3 hQ3 hb3 f0 e0 f1 e1 f2 e2 f3 e3 f4 e4 f5 e5 f6 e6 f7 e7 f8 e8
      refine wpAnyH_done (by kernel_rfl) ?_ _
      have hpp : w.heap.size ≤ W0.heap.size + 1 := by omega
      have hqq : w.heap.size ≤ W0.heap.size := by omega
      generalize W0.heap.size + 1 = p at hP4 hpp ⊢
      generalize W0.heap.size = q at hQ4 hqq ⊢
      exact hk.out W4 p q ⟨hb4, hP4, hQ4, hA4, hB4, hpp, hqq⟩
  · intro W p q hH
    obtain ⟨hbw, hP, hQ, hA, hB, -⟩ := hH
    have HBw := Lib.hid hbw
    have HPQ := Lib.hid (And.intro hP hQ)
    obtain ⟨a0, -, -, -, -, -, -, -, -, -, a10, a11⟩ := Blk.c12 hA
    obtain ⟨b0, -, -, -, -, -, -, -, -, -, b10, b11⟩ := Blk.c12 hB
    clear hbw hP hQ hA hB hA0 hB0
    cases h1 : (ak == ak') with
    | false =>
      clear hyp
      have HX : Hid (R = false) := Lib.hid (by rw [HC.out]; simp [h1])
      clear HC
      go_wp2_with (first
        | (go_at_call 106; refine (HT.out _ HBw.out).mono ?_; rintro e w1 ⟨rfl, hb1⟩; have HB1 := Lib.hid (bthn HBw.out hb1); obtain ⟨p0, p1, p2, p3, p4, p5, p6, p7, p8⟩ := Blk.c9_ (Blk.below HPQ.out.1 hb1); obtain ⟨q0, q1, q2, q3, q4, q5, q6, q7, q8⟩ := Blk.c9_ (Blk.below HPQ.out.2 hb1))
        | (go_at_call 109; refine (HI.out _ HB1.out).mono ?_; rintro e w2 ⟨rfl, hb2⟩; have HB2 := Lib.hid (bthn HB1.out hb2); have hb12 := bthn hb1 hb2; obtain ⟨p0, p1, p2, p3, p4, p5, p6, p7, p8⟩ := Blk.c9_ (Blk.below HPQ.out.1 hb12); obtain ⟨q0, q1, q2, q3, q4, q5, q6, q7, q8⟩ := Blk.c9_ (Blk.below HPQ.out.2 hb12))
        | (go_at_call 108; refine (HP.out _ HB2.out).mono ?_; rintro e w3 ⟨rfl, hb3⟩; have HB3 := Lib.hid (bthn HB2.out hb3)))
      go_ret
      rw [HX.out]
      first
        | exact ⟨rfl, HB3.out⟩
        | exact ⟨rfl, HB2.out⟩
        | exact ⟨rfl, HB1.out⟩
        | exact ⟨rfl, HBw.out⟩
    | true =>
      cases h2 : (n == n') with
      | false =>
        clear hyp
        have HX : Hid (R = false) := Lib.hid (by rw [HC.out]; simp [h2])
        clear HC
        go_wp2_with (first
          | (go_at_call 106; refine (HT.out _ HBw.out).mono ?_; rintro e w1 ⟨rfl, hb1⟩; have HB1 := Lib.hid (bthn HBw.out hb1); obtain ⟨p0, p1, p2, p3, p4, p5, p6, p7, p8⟩ := Blk.c9_ (Blk.below HPQ.out.1 hb1); obtain ⟨q0, q1, q2, q3, q4, q5, q6, q7, q8⟩ := Blk.c9_ (Blk.below HPQ.out.2 hb1))
          | (go_at_call 109; refine (HI.out _ HB1.out).mono ?_; rintro e w2 ⟨rfl, hb2⟩; have HB2 := Lib.hid (bthn HB1.out hb2); have hb12 := bthn hb1 hb2; obtain ⟨p0, p1, p2, p3, p4, p5, p6, p7, p8⟩ := Blk.c9_ (Blk.below HPQ.out.1 hb12); obtain ⟨q0, q1, q2, q3, q4, q5, q6, q7, q8⟩ := Blk.c9_ (Blk.below HPQ.out.2 hb12))
          | (go_at_call 108; refine (HP.out _ HB2.out).mono ?_; rintro e w3 ⟨rfl, hb3⟩; have HB3 := Lib.hid (bthn HB2.out hb3)))
        go_ret
        rw [HX.out]
        first
          | exact ⟨rfl, HB3.out⟩
          | exact ⟨rfl, HB2.out⟩
          | exact ⟨rfl, HB1.out⟩
          | exact ⟨rfl, HBw.out⟩
      | true =>
        have h3 : (lg == lg') = false := by rw [h1, h2] at hyp; simpa using hyp
        clear hyp
        have HX : Hid (R = false) := Lib.hid (by rw [HC.out]; simp [h3])
        clear HC
        go_wp2_with (first
          | (go_at_call 106; refine (HT.out _ HBw.out).mono ?_; rintro e w1 ⟨rfl, hb1⟩; have HB1 := Lib.hid (bthn HBw.out hb1); obtain ⟨p0, p1, p2, p3, p4, p5, p6, p7, p8⟩ := Blk.c9_ (Blk.below HPQ.out.1 hb1); obtain ⟨q0, q1, q2, q3, q4, q5, q6, q7, q8⟩ := Blk.c9_ (Blk.below HPQ.out.2 hb1))
          | (go_at_call 109; refine (HI.out _ HB1.out).mono ?_; rintro e w2 ⟨rfl, hb2⟩; have HB2 := Lib.hid (bthn HB1.out hb2); have hb12 := bthn hb1 hb2; obtain ⟨p0, p1, p2, p3, p4, p5, p6, p7, p8⟩ := Blk.c9_ (Blk.below HPQ.out.1 hb12); obtain ⟨q0, q1, q2, q3, q4, q5, q6, q7, q8⟩ := Blk.c9_ (Blk.below HPQ.out.2 hb12))
          | (go_at_call 108; refine (HP.out _ HB2.out).mono ?_; rintro e w3 ⟨rfl, hb3⟩; have HB3 := Lib.hid (bthn HB2.out hb3)))
        go_ret
        rw [HX.out]
        first
          | exact ⟨rfl, HB3.out⟩
          | exact ⟨rfl, HB2.out⟩
          | exact ⟨rfl, HB1.out⟩
          | exact ⟨rfl, HBw.out⟩
end Go.Proofs.YtkkildkleleppaaGreatDoor
