/- dump.Text. The closures that write a load, a restart. -/
import Derived.Test.YtkkildkleleppaaGreatDoorJ06
import Derived.Test.YtkkildkleleppaaGreatDoorJ26
namespace Go.Proofs.YtkkildkleleppaaGreatDoor
open Go.RowKit

set_option maxHeartbeats 2000000 in
theorem Text_any (a : Option Addr) (n c : Nat) (ts : List T) (hn : n = ts.length) (hl : n ≤ 16777216) (hf : fitTs ts) (w : World) (hE : Env w) (h : IsTs w a ts) :
    Calls Tryz.prog 9 #[.slice a n c] w (Ret w (.tuple #[.string ⟨(textS ts).toArray⟩, .int .i64 (textE ts)])) := by
  have HN := Lib.hid hn
  have HE := Lib.hid hE
  have HF := Lib.hid hf
  have H := Lib.hid h
  clear hn hE hf h
  go_enter Tryz.func9, Tryz.ntmps9
  go_wp2
  go_loopw [6, 8, 9, 10, 13] (fun _ _ _ _ i wr => ∃ k : Nat, k ≤ n ∧ i = .int .i64 k ∧ IsB wr w.heap.size w.heap.size (flatT (ts.take k)) ∧ (ts.take k).all T.may = true ∧ Below w.heap.size w wr) (fun _ _ _ _ i _ => n - (intOf i).toNat)
  case atStart => exact ⟨0, by omega, rfl, IsB.fresh w, by simp, (Below.refl _ _).alloc (Nat.le_refl _) _⟩
  case round =>
    obtain ⟨k, hk, rfl, hB, hall, hb⟩ := hrel
    have hpl := flat_len (ts.take k) (fun t ht => HF.out t (List.mem_of_mem_take ht)) hall
    have hpl2 : (ts.take k).length ≤ k := List.length_take_le _ _
    have hpl3 : (flatT (ts.take k)).length ≤ 335544320000 := by omega
    have HA := Lib.hid hall
    clear hpl hpl2 hall
    by_cases hlt : k < n
    · have hkv : k < ts.length := by have := HN.out; omega
      obtain ⟨b, o, rfl, t0, pa, pc, t1, hpc, hvs⟩ := H.out.at_ hkv
      have q0 := (hb.cell (lt_of_cell t0)).trans t0
      have q1 := (hb.cell (lt_of_cell t1)).trans t1
      clear t0 t1
      have HT : Hid (flatT (ts.take (k + 1)) = flatT (ts.take k) ++ ts[k].part) := by
        apply Lib.hid
        rw [List.take_succ_eq_append_getElem hkv, flatT_append, flatT_one]
      have HFv := Lib.hid (HF.out ts[k] (List.getElem_mem hkv))
      have HE2 := Lib.hid (HE.out.below hb)
      have HB : Hid (ts[k].may = false → textS ts = [] ∧ textE ts = 2) := Lib.hid (text_bad ts k hkv)
      have HA2 : Hid (ts[k].may = true → (ts.take (k + 1)).all T.may = true) := by
        apply Lib.hid
        intro hm
        rw [List.take_succ_eq_append_getElem hkv, List.all_append, HA.out]; simp [hm]
      generalize ts[k] = t at q0 q1 hpc hvs HT HFv HB HA2
      obtain ⟨sql, ps⟩ := t
      simp only at q0 q1 hpc hvs
      generalize hm : ps.length = m at q1 hpc
      have HM := Lib.hid hm
      clear hm
      have hz := lt_of_cell q0
      simp only at hz
      have C1 := Lib.hid (fun W (hW : Below wr.heap.size wr W) => dmay_any sql pa m pc ps HM.out.symm W (hvs.below (hb.trans (hW.mono hb.size))))
      cases hmay : T.may ⟨sql, ps⟩ with
      | true =>
        have HY := Lib.hid hmay
        have hsz := may_sql hmay
        have hpl4 := part_len ⟨sql, ps⟩ HFv.out hmay
        have hm16 : m ≤ 16 := by have := hsz.2; have := HM.out; simp only at *; omega
        have hs2 : sql.size ≤ 2000 := hsz.1
        have hvs2 := Lib.hid hvs
        clear hmay hsz hvs
        go_wp2_with fail
        refine (C1.out _ ((Below.refl _ _).alloc (Nat.le_refl _) _)).mono ?_
        rw [HY.out]
        rintro e w2 ⟨rfl, hb2⟩
        have hbx : Below (wr.heap.size + 1) (wr.alloc (.cells #[.string sql, .slice pa m pc] 71)) w2 := hb2.mono (by simp)
        have x0 : w2.cell? ⟨wr.heap.size, 0, none⟩ = some (.string sql) := box_cell hbx 0
        have hB2 : IsB w2 w.heap.size w.heap.size (flatT (ts.take k)) := hB.below (box_below hbx)
        clear hb2
        go_wp2_with fail
        refine (literal_any sql (by omega) _ (HE2.out.below (box_below hbx))).mono ?_
        rintro e w3 ⟨rfl, hb3⟩
        have hbx3 := hbx.trans (hb3.mono (by have := hbx.size; simpa using this))
        have hB3 := hB2.below hb3
        have hz3 : w.heap.size ≤ w3.heap.size := Nat.le_trans hb.size (Nat.le_trans (box_below hbx).size hb3.size)
        clear x0
        go_wp2_with fail
        refine (WriteString_any _ _ _ ⟨(quoted sql.data.toList).toArray⟩ _ hB3 (by have := quoted_len sql.data.toList; have := dbl_len sql.data.toList; rw [size_len] at this; simp [ByteArray.size]; omega) hz3).mono ?_
        rintro e w4 ⟨rfl, hB4, hb4, hk4⟩
        have hne : wr.heap.size ≠ w.heap.size := by have := hB.lt; omega
        have hblk : w4.heap[wr.heap.size]? = some (.cells #[.string sql, .slice pa m pc] 71 (0, 0)) :=
          kept_block hk4 ((hbx3.block wr.heap.size (by omega)).trans (heap_alloc_new wr _)) hne (by decide)
        have x1 : w4.cell? ⟨wr.heap.size, 1, none⟩ = some (.slice pa m pc) := cell_of_row _ _ 1 _ _ _ hblk
        have hbw4 : Below w.heap.size w w4 := (hb.trans ((box_below hbx3).mono hb.size)).trans hb4
        clear hk4 hblk
        go_wp2_with fail
        clear x1 hbx hbx3 hb3 hB2 hB3 hb4 hz3
        go_loopw [8, 9, 10, 27] (fun _ _ _ i wq => ∃ j : Nat, j ≤ m ∧ i = .int .i64 j ∧ IsB wq w.heap.size w.heap.size (flatT (ts.take k) ++ quoted sql.data.toList ++ paramsT (ps.take j)) ∧ Below w.heap.size w wq) (fun _ _ _ i _ => m - (intOf i).toNat)
        case atStart => exact ⟨0, by omega, rfl, by simpa [paramsT] using hB4, hbw4⟩
        case round =>
          obtain ⟨j, hj, rfl, hBq, hbq⟩ := hrel
          have hpj := paramsT_len (ps.take j) (fun v hv => HFv.out v (List.mem_of_mem_take hv))
          have hpj2 : (ps.take j).length ≤ j := List.length_take_le _ _
          have hpj3 : (paramsT (ps.take j)).length ≤ 12864 := by omega
          have hql : (quoted sql.data.toList).length ≤ 4002 := by
            have := quoted_len sql.data.toList
            have := dbl_len sql.data.toList
            rw [size_len] at this
            omega
          clear hpj hpj2
          by_cases hjl : j < m
          · have hjv : j < ps.length := by have := HM.out; omega
            obtain ⟨b', o', rfl, c0, c1, c2⟩ := (hvs2.out.below hbq).at_ hjv
            have HJ : Hid (paramsT (ps.take (j + 1)) = paramsT (ps.take j) ++ (44 :: ps[j].lit)) := by
              apply Lib.hid
              rw [List.take_succ_eq_append_getElem hjv, paramsT_append]; simp [paramsT]
            have HFj := Lib.hid (HFv.out ps[j] (List.getElem_mem hjv))
            have hll := lit_len ps[j] HFj.out
            generalize ps[j] = v at c0 c1 c2 HJ HFj hll
            have HEq := Lib.hid (HE.out.below hbq)
            go_wp2_with fail
            refine (Print_any v HFj.out _ (HEq.out.below ((Below.refl _ _).alloc (Nat.le_refl _) _))).mono ?_
            rintro e w5 ⟨rfl, hb5⟩
            have hB5 := hBq.below (box_below2 hb5)
            have hbq5 := hbq.trans ((box_below2 hb5).mono hbq.size)
            have ht : (ByteArray.mk #[44] ++ ByteArray.mk v.lit.toArray).data.toList = 44 :: v.lit := by rw [show (ByteArray.mk #[44]) = ByteArray.mk [44].toArray from rfl, cat_str]; simp
            have HTl := Lib.hid ht
            clear ht
            go_wp2_with fail
            refine (WriteString_any _ _ _ _ _ hB5 (by simp [ByteArray.size]; omega) hbq5.size).mono ?_
            rintro e w6 ⟨rfl, hB6, hb6, hk6⟩
            rw [HTl.out] at hB6
            clear hk6
            go_wp2_with fail
            go_roundw
            case rel =>
              refine ⟨j + 1, by omega, by go_num, ?_, hbq5.trans hb6⟩
              rw [HJ.out, ← List.append_assoc]
              exact hB6
            case measure => simp [intOf]; omega
          · have hjn : j = m := by omega
            have HK : Hid (ps.take j = ps) := by
              apply Lib.hid
              rw [hjn, ← HM.out]; exact List.take_length
            clear hjn
            go_wp2_with fail
            refine (WriteByte_any _ _ _ 10 _ hBq (by simp; omega) hbq.size).mono ?_
            rintro e w6 ⟨rfl, hB6, hb6, hk6⟩
            clear hk6
            go_wp2_with fail
            go_roundw
            case rel =>
              refine ⟨k + 1, by omega, by go_num, ?_, HA2.out HY.out, hbq.trans hb6⟩
              rw [HT.out, T.part, ← List.append_assoc, ← List.append_assoc]
              rw [HK.out] at hB6
              exact hB6
            case measure => simp [intOf]; omega
      | false =>
        have HY := Lib.hid hmay
        clear hmay
        go_wp2_with (go_at_call 25; refine (C1.out _ ((Below.refl _ _).alloc (Nat.le_refl _) _)).mono ?_; rw [HY.out]; rintro e w2 ⟨rfl, hb2⟩)
        go_ret2
        refine ⟨?_, hb.trans ((box_below2 hb2).mono hb.size)⟩
        rw [(HB.out HY.out).1, (HB.out HY.out).2]; rfl
    · have hkn : k = n := by omega
      have HK : Hid (ts.take k = ts) := by
        apply Lib.hid
        rw [hkn, HN.out]; exact List.take_length
      clear hkn
      go_wp2_with fail
      refine (BString_any _ _ _ _ hB hb.size).mono ?_
      rintro e w4 ⟨rfl, hB4, hb4, hk4⟩
      go_wp2_with fail
      go_ret2
      have h1 := HA.out
      rw [HK.out] at h1
      refine ⟨?_, hb.trans hb4⟩
      rw [(text_ok ts h1).1, (text_ok ts h1).2, HK.out]; rfl
end Go.Proofs.YtkkildkleleppaaGreatDoor
namespace Go.Proofs.YtkkildkleleppaaGreatDoor
open Go.RowKit


theorem conn_cat (n : Int) (l : List UInt8) : (ByteArray.mk (numT n).toArray ++ ByteArray.mk #[32]) ++ ByteArray.mk l.toArray = ByteArray.mk (numT n ++ 32 :: l).toArray := by
  rw [show (ByteArray.mk #[32]) = ByteArray.mk [32].toArray from rfl, cat_str, cat_str]
  simp
set_option maxRecDepth 100000 in
set_option maxHeartbeats 2000000 in
theorem loadwrite_any (c : C) (v : Value) (w : World) (hf : FitC c) (hE : Env w) (hv : IsC w v c) :
    Calls Tryz.prog 101 #[v] w (Ret w (.tuple #[.string ⟨((loadW c).1).toArray⟩, .bool (loadW c).2])) := by
  obtain ⟨pa, pc, ca, cc, ta, tc, rfl, -, -, -, -, -, hts⟩ := hv
  unfold C.val cmdV
  obtain ⟨W0, hW0⟩ : ∃ W0, w.alloc (.cells #[.int .i64 c.k, .int .i64 c.ak, .int .i64 c.ek, .int .i64 c.ec, .int .i64 c.es, .string c.sql, .slice pa c.ps.length pc, .int .i64 c.n, .bool c.log, .slice ca c.ch.length cc, .int .i64 c.conn, .slice ta c.told.length tc] 47) = W0 := ⟨_, rfl⟩
  have HB0 : Hid (Below w.heap.size w W0) := Lib.hid (by rw [← hW0]; exact below_alloc _ _)
  have HR0 : Hid (Blk W0 w.heap.size #[.int .i64 c.k, .int .i64 c.ak, .int .i64 c.ek, .int .i64 c.ec, .int .i64 c.es, .string c.sql, .slice pa c.ps.length pc, .int .i64 c.n, .bool c.log, .slice ca c.ch.length cc, .int .i64 c.conn, .slice ta c.told.length tc] 47) := Lib.hid (by rw [← hW0]; exact Blk.new _ _ _)
  obtain ⟨b0, -, -, -, -, -, -, -, -, -, b10, b11⟩ := Blk.c12 HR0.out
  have HE0 : Hid (Env W0) := Lib.hid (hE.below HB0.out)
  have HT0 : Hid (IsTs W0 ta c.told) := Lib.hid (hts.below HB0.out)
  have HN := Lib.hid (fun w' hE => num_any c.conn hf.conn w' hE)
  have HTx := Lib.hid (fun w' hE h => Text_any ta c.told.length tc c.told rfl (by have := hf.tl; omega) hf.ft w' hE h)
  have n1 := numT_len hf.conn
  have n2 := hf.text
  have s1 : ¬ (9223372036854775807 < (numT c.conn).length + 1) := by omega
  have s2 : ¬ (9223372036854775807 < (numT c.conn).length + 1 + (textS c.told).length) := by omega
  clear hts hE
  by_cases x1 : c.k = 4
  · by_cases x2 : textE c.told = 0
    · have HX : Hid (loadW c = (numT c.conn ++ 32 :: textS c.told, true)) := Lib.hid (by simp [loadW, x1, x2])
      have X1 := Lib.hid x1
      have X2 := Lib.hid x2
      clear x1 x2
      go_enter Tryz.func101, Tryz.ntmps101
      go_wp2_with (go_at_call 9; refine (HTx.out _ HE0.out HT0.out).mono ?_; rintro e w2 ⟨rfl, hb2⟩; have d0 := (hb2.cell (lt_of_cell b0)).trans b0; have d10 := (hb2.cell (lt_of_cell b10)).trans b10)
      clear hW0
      have x1 : (c.k == 4) = true := by simpa using X1.out
      have x2 : (textE c.told == 0) = true := by simpa using X2.out
      refine wp_region_held_drew (S := fun w' => w'.cell? ⟨w.heap.size, 0, none⟩ = some (.int .i64 c.k) ∧ w'.cell? ⟨w.heap.size, 10, none⟩ = some (.int .i64 c.conn)) (by kernel_rfl) ⟨d0, d10⟩ (fun hHeld => ?_)
      (refine wpAnyH_take (i := 0) (v := (.pointer (some ⟨w.heap.size, 10, none⟩))) rfl (by kernel_rfl) (by kernel_rfl) (by kernel_rfl) (fun _ _ _ h => h) (Or.inl ⟨by rfl, by intro w hSw; (try dsimp only at hSw); go_simp; try with_reducible rfl⟩) (by assumption) ?_; simp only [List.getElem_toArray, List.getElem_cons_zero, Act.put, List.setIfInBounds_toArray, List.set_cons_succ, List.set_cons_zero])
      (refine wpAnyH_take (i := 1) (v := (.int .i64 c.conn)) rfl (by kernel_rfl) (by kernel_rfl) (by kernel_rfl) (fun _ _ _ h => h) (Or.inl ⟨by rfl, by intro w hSw; (try dsimp only at hSw); go_simp; try with_reducible rfl⟩) (by assumption) ?_; simp only [List.getElem_toArray, List.getElem_cons_succ, List.getElem_cons_zero, Act.put, List.setIfInBounds_toArray, List.set_cons_succ, List.set_cons_zero])
      (refine wpAnyH_take (i := 4) (v := (.string ⟨(textS c.told).toArray⟩)) rfl (by kernel_rfl) (by kernel_rfl) (by kernel_rfl) (fun _ _ _ h => h) (Or.inl ⟨by rfl, by intro w hSw; (try dsimp only at hSw); go_simp; try with_reducible rfl⟩) (by assumption) ?_; simp only [List.getElem_toArray, List.getElem_cons_succ, List.getElem_cons_zero, Act.put, List.setIfInBounds_toArray, List.set_cons_succ, List.set_cons_zero])
      (refine wpAnyH_take (i := 6) (v := (.pointer (some ⟨w.heap.size, 0, none⟩))) rfl (by kernel_rfl) (by kernel_rfl) (by kernel_rfl) (fun _ _ _ h => h) (Or.inl ⟨by rfl, by intro w hSw; (try dsimp only at hSw); go_simp; try with_reducible rfl⟩) (by assumption) ?_; simp only [List.getElem_toArray, List.getElem_cons_succ, List.getElem_cons_zero, Act.put, List.setIfInBounds_toArray, List.set_cons_succ, List.set_cons_zero])
      (refine wpAnyH_take (i := 7) (v := (.int .i64 c.k)) rfl (by kernel_rfl) (by kernel_rfl) (by kernel_rfl) (fun _ _ _ h => h) (Or.inl ⟨by rfl, by intro w hSw; (try dsimp only at hSw); go_simp; try with_reducible rfl⟩) (by assumption) ?_; simp only [List.getElem_toArray, List.getElem_cons_succ, List.getElem_cons_zero, Act.put, List.setIfInBounds_toArray, List.set_cons_succ, List.set_cons_zero])
      (refine wpAnyH_take (i := 8) (v := (.bool true)) rfl (by kernel_rfl) (by kernel_rfl) (by kernel_rfl) (fun _ _ _ h => h) (Or.inl ⟨by rfl, by intro w hSw; (try dsimp only at hSw); go_simp; try with_reducible rfl⟩) (by assumption) ?_; simp only [List.getElem_toArray, List.getElem_cons_succ, List.getElem_cons_zero, Act.put, List.setIfInBounds_toArray, List.set_cons_succ, List.set_cons_zero])
      refine wpAnyH_ready (rs := [2]) (by kernel_rfl) (by simp) (AllReadyH.cons rfl (fun K' hK => ?_) AllReadyH.nil)
      go_simp
      refine (HN.out _ (HE0.out.below (below_drew hb2))).mono ?_
      rintro e w5 ⟨rfl, hb5⟩
      try go_simp
      refine hK.out _ _ ⟨(hb5.cell (lt_of_cell d0)).trans d0, (hb5.cell (lt_of_cell d10)).trans d10⟩ (fun hHeld5 => ?_)
      clear hK K'
      (refine wpAnyH_take (i := 3) (v := (.string (⟨(numT c.conn).toArray⟩ ++ ⟨#[32]⟩))) rfl (by kernel_rfl) (by kernel_rfl) (by kernel_rfl) (fun _ _ _ h => h) (Or.inl ⟨by rfl, by intro w hSw; (try dsimp only at hSw); go_simp; try with_reducible rfl⟩) (by assumption) ?_; simp only [List.getElem_toArray, List.getElem_cons_succ, List.getElem_cons_zero, Act.put, List.setIfInBounds_toArray, List.set_cons_succ, List.set_cons_zero])
      (refine wpAnyH_take (i := 5) (v := (.string (⟨(numT c.conn).toArray⟩ ++ ⟨#[32]⟩ ++ ⟨(textS c.told).toArray⟩))) rfl (by kernel_rfl) (by kernel_rfl) (by kernel_rfl) (fun _ _ _ h => h) (Or.inl ⟨by rfl, by intro w hSw; (try dsimp only at hSw); go_simp; try with_reducible rfl⟩) (by assumption) ?_; simp only [List.getElem_toArray, List.getElem_cons_succ, List.getElem_cons_zero, Act.put, List.setIfInBounds_toArray, List.set_cons_succ, List.set_cons_zero])
      (refine wpAnyH_take (i := 9) (v := (.bool true)) rfl (by kernel_rfl) (by kernel_rfl) (by kernel_rfl) (fun _ _ _ h => h) (Or.inl ⟨by rfl, by intro w hSw; (try dsimp only at hSw); go_simp; try with_reducible rfl⟩) (by assumption) ?_; simp only [List.getElem_toArray, List.getElem_cons_succ, List.getElem_cons_zero, Act.put, List.setIfInBounds_toArray, List.set_cons_succ, List.set_cons_zero])
      rw [X2.out]
      (refine wpAnyH_take (i := 10) (v := (.int .i64 0)) rfl (by kernel_rfl) (by kernel_rfl) (by kernel_rfl) (fun _ _ _ h => h) (Or.inl ⟨by rfl, by intro w hSw; (try dsimp only at hSw); go_simp; try with_reducible rfl⟩) (by assumption) ?_; simp only [List.getElem_toArray, List.getElem_cons_succ, List.getElem_cons_zero, Act.put, List.setIfInBounds_toArray, List.set_cons_succ, List.set_cons_zero])
      (refine wpAnyH_take (i := 11) (v := (.bool true)) rfl (by kernel_rfl) (by kernel_rfl) (by kernel_rfl) (fun _ _ _ h => h) (Or.inl ⟨by rfl, by intro w hSw; (try dsimp only at hSw); go_simp; try with_reducible rfl⟩) (by assumption) ?_; simp only [List.getElem_toArray, List.getElem_cons_succ, List.getElem_cons_zero, Act.put, List.setIfInBounds_toArray, List.set_cons_succ, List.set_cons_zero])
      (refine wpAnyH_take (i := 12) (v := (.bool true)) rfl (by kernel_rfl) (by kernel_rfl) (by kernel_rfl) (fun _ _ _ h => h) (Or.inl ⟨by rfl, by intro w hSw; (try dsimp only at hSw); go_simp; try with_reducible rfl⟩) (by assumption) ?_; simp only [List.getElem_toArray, List.getElem_cons_succ, List.getElem_cons_zero, Act.put, List.setIfInBounds_toArray, List.set_cons_succ, List.set_cons_zero])
      (refine wpAnyH_take (i := 13) (v := (.string (⟨(numT c.conn).toArray⟩ ++ ⟨#[32]⟩ ++ ⟨(textS c.told).toArray⟩))) rfl (by kernel_rfl) (by kernel_rfl) (by kernel_rfl) (fun _ _ _ h => h) (Or.inl ⟨by rfl, by intro w hSw; (try dsimp only at hSw); go_simp; try with_reducible rfl⟩) (by assumption) ?_; simp only [List.getElem_toArray, List.getElem_cons_succ, List.getElem_cons_zero, Act.put, List.setIfInBounds_toArray, List.set_cons_succ, List.set_cons_zero])
      (refine wpAnyH_take (i := 14) (v := (.bool true)) rfl (by kernel_rfl) (by kernel_rfl) (by kernel_rfl) (fun _ _ _ h => h) (Or.inl ⟨by rfl, by intro w hSw; (try dsimp only at hSw); go_simp; try with_reducible rfl⟩) (by assumption) ?_; simp only [List.getElem_toArray, List.getElem_cons_succ, List.getElem_cons_zero, Act.put, List.setIfInBounds_toArray, List.set_cons_succ, List.set_cons_zero])
      refine wpAnyH_done (by kernel_rfl) ?_ _
      go_wp2_with fail
      go_ret2
      rw [HX.out, ← conn_cat]
      exact ⟨rfl, (HB0.out.trans ((below_drew hb2).mono HB0.out.size)).trans (hb5.mono (by have h1 := HB0.out.size; have h2 := hb2.size; exact Nat.le_trans h1 h2))⟩
    · have HX : Hid (loadW c = (numT c.conn ++ 32 :: textS c.told, false)) := Lib.hid (by simp [loadW, x2])
      have X1 := Lib.hid x1
      have X2 := Lib.hid x2
      clear x1 x2
      go_enter Tryz.func101, Tryz.ntmps101
      go_wp2_with (go_at_call 9; refine (HTx.out _ HE0.out HT0.out).mono ?_; rintro e w2 ⟨rfl, hb2⟩; have d0 := (hb2.cell (lt_of_cell b0)).trans b0; have d10 := (hb2.cell (lt_of_cell b10)).trans b10)
      clear hW0
      have x1 : (c.k == 4) = true := by simpa using X1.out
      have x2 : (textE c.told == 0) = false := by simpa using X2.out
      refine wp_region_held_drew (S := fun w' => w'.cell? ⟨w.heap.size, 0, none⟩ = some (.int .i64 c.k) ∧ w'.cell? ⟨w.heap.size, 10, none⟩ = some (.int .i64 c.conn)) (by kernel_rfl) ⟨d0, d10⟩ (fun hHeld => ?_)
      (refine wpAnyH_take (i := 0) (v := (.pointer (some ⟨w.heap.size, 10, none⟩))) rfl (by kernel_rfl) (by kernel_rfl) (by kernel_rfl) (fun _ _ _ h => h) (Or.inl ⟨by rfl, by intro w hSw; (try dsimp only at hSw); go_simp; try with_reducible rfl⟩) (by assumption) ?_; simp only [List.getElem_toArray, List.getElem_cons_zero, Act.put, List.setIfInBounds_toArray, List.set_cons_succ, List.set_cons_zero])
      (refine wpAnyH_take (i := 1) (v := (.int .i64 c.conn)) rfl (by kernel_rfl) (by kernel_rfl) (by kernel_rfl) (fun _ _ _ h => h) (Or.inl ⟨by rfl, by intro w hSw; (try dsimp only at hSw); go_simp; try with_reducible rfl⟩) (by assumption) ?_; simp only [List.getElem_toArray, List.getElem_cons_succ, List.getElem_cons_zero, Act.put, List.setIfInBounds_toArray, List.set_cons_succ, List.set_cons_zero])
      (refine wpAnyH_take (i := 4) (v := (.string ⟨(textS c.told).toArray⟩)) rfl (by kernel_rfl) (by kernel_rfl) (by kernel_rfl) (fun _ _ _ h => h) (Or.inl ⟨by rfl, by intro w hSw; (try dsimp only at hSw); go_simp; try with_reducible rfl⟩) (by assumption) ?_; simp only [List.getElem_toArray, List.getElem_cons_succ, List.getElem_cons_zero, Act.put, List.setIfInBounds_toArray, List.set_cons_succ, List.set_cons_zero])
      (refine wpAnyH_take (i := 6) (v := (.pointer (some ⟨w.heap.size, 0, none⟩))) rfl (by kernel_rfl) (by kernel_rfl) (by kernel_rfl) (fun _ _ _ h => h) (Or.inl ⟨by rfl, by intro w hSw; (try dsimp only at hSw); go_simp; try with_reducible rfl⟩) (by assumption) ?_; simp only [List.getElem_toArray, List.getElem_cons_succ, List.getElem_cons_zero, Act.put, List.setIfInBounds_toArray, List.set_cons_succ, List.set_cons_zero])
      (refine wpAnyH_take (i := 7) (v := (.int .i64 c.k)) rfl (by kernel_rfl) (by kernel_rfl) (by kernel_rfl) (fun _ _ _ h => h) (Or.inl ⟨by rfl, by intro w hSw; (try dsimp only at hSw); go_simp; try with_reducible rfl⟩) (by assumption) ?_; simp only [List.getElem_toArray, List.getElem_cons_succ, List.getElem_cons_zero, Act.put, List.setIfInBounds_toArray, List.set_cons_succ, List.set_cons_zero])
      (refine wpAnyH_take (i := 8) (v := (.bool true)) rfl (by kernel_rfl) (by kernel_rfl) (by kernel_rfl) (fun _ _ _ h => h) (Or.inl ⟨by rfl, by intro w hSw; (try dsimp only at hSw); go_simp; try with_reducible rfl⟩) (by assumption) ?_; simp only [List.getElem_toArray, List.getElem_cons_succ, List.getElem_cons_zero, Act.put, List.setIfInBounds_toArray, List.set_cons_succ, List.set_cons_zero])
      refine wpAnyH_ready (rs := [2]) (by kernel_rfl) (by simp) (AllReadyH.cons rfl (fun K' hK => ?_) AllReadyH.nil)
      go_simp
      refine (HN.out _ (HE0.out.below (below_drew hb2))).mono ?_
      rintro e w5 ⟨rfl, hb5⟩
      try go_simp
      refine hK.out _ _ ⟨(hb5.cell (lt_of_cell d0)).trans d0, (hb5.cell (lt_of_cell d10)).trans d10⟩ (fun hHeld5 => ?_)
      clear hK K'
      (refine wpAnyH_take (i := 3) (v := (.string (⟨(numT c.conn).toArray⟩ ++ ⟨#[32]⟩))) rfl (by kernel_rfl) (by kernel_rfl) (by kernel_rfl) (fun _ _ _ h => h) (Or.inl ⟨by rfl, by intro w hSw; (try dsimp only at hSw); go_simp; try with_reducible rfl⟩) (by assumption) ?_; simp only [List.getElem_toArray, List.getElem_cons_succ, List.getElem_cons_zero, Act.put, List.setIfInBounds_toArray, List.set_cons_succ, List.set_cons_zero])
      (refine wpAnyH_take (i := 5) (v := (.string (⟨(numT c.conn).toArray⟩ ++ ⟨#[32]⟩ ++ ⟨(textS c.told).toArray⟩))) rfl (by kernel_rfl) (by kernel_rfl) (by kernel_rfl) (fun _ _ _ h => h) (Or.inl ⟨by rfl, by intro w hSw; (try dsimp only at hSw); go_simp; try with_reducible rfl⟩) (by assumption) ?_; simp only [List.getElem_toArray, List.getElem_cons_succ, List.getElem_cons_zero, Act.put, List.setIfInBounds_toArray, List.set_cons_succ, List.set_cons_zero])
      (refine wpAnyH_take (i := 9) (v := (.bool true)) rfl (by kernel_rfl) (by kernel_rfl) (by kernel_rfl) (fun _ _ _ h => h) (Or.inl ⟨by rfl, by intro w hSw; (try dsimp only at hSw); go_simp; try with_reducible rfl⟩) (by assumption) ?_; simp only [List.getElem_toArray, List.getElem_cons_succ, List.getElem_cons_zero, Act.put, List.setIfInBounds_toArray, List.set_cons_succ, List.set_cons_zero])
      (refine wpAnyH_take (i := 10) (v := (.int .i64 (textE c.told))) rfl (by kernel_rfl) (by kernel_rfl) (by kernel_rfl) (fun _ _ _ h => h) (Or.inl ⟨by rfl, by intro w hSw; (try dsimp only at hSw); go_simp; try with_reducible rfl⟩) (by assumption) ?_; simp only [List.getElem_toArray, List.getElem_cons_succ, List.getElem_cons_zero, Act.put, List.setIfInBounds_toArray, List.set_cons_succ, List.set_cons_zero])
      (refine wpAnyH_take (i := 11) (v := (.bool false)) rfl (by kernel_rfl) (by kernel_rfl) (by kernel_rfl) (fun _ _ _ h => h) (Or.inl ⟨by rfl, by intro w hSw; (try dsimp only at hSw); go_simp; try with_reducible rfl⟩) (by assumption) ?_; simp only [List.getElem_toArray, List.getElem_cons_succ, List.getElem_cons_zero, Act.put, List.setIfInBounds_toArray, List.set_cons_succ, List.set_cons_zero])
      (refine wpAnyH_take (i := 12) (v := (.bool false)) rfl (by kernel_rfl) (by kernel_rfl) (by kernel_rfl) (fun _ _ _ h => h) (Or.inl ⟨by rfl, by intro w hSw; (try dsimp only at hSw); go_simp; try with_reducible rfl⟩) (by assumption) ?_; simp only [List.getElem_toArray, List.getElem_cons_succ, List.getElem_cons_zero, Act.put, List.setIfInBounds_toArray, List.set_cons_succ, List.set_cons_zero])
      (refine wpAnyH_take (i := 13) (v := (.string (⟨(numT c.conn).toArray⟩ ++ ⟨#[32]⟩ ++ ⟨(textS c.told).toArray⟩))) rfl (by kernel_rfl) (by kernel_rfl) (by kernel_rfl) (fun _ _ _ h => h) (Or.inl ⟨by rfl, by intro w hSw; (try dsimp only at hSw); go_simp; try with_reducible rfl⟩) (by assumption) ?_; simp only [List.getElem_toArray, List.getElem_cons_succ, List.getElem_cons_zero, Act.put, List.setIfInBounds_toArray, List.set_cons_succ, List.set_cons_zero])
      (refine wpAnyH_take (i := 14) (v := (.bool false)) rfl (by kernel_rfl) (by kernel_rfl) (by kernel_rfl) (fun _ _ _ h => h) (Or.inl ⟨by rfl, by intro w hSw; (try dsimp only at hSw); go_simp; try with_reducible rfl⟩) (by assumption) ?_; simp only [List.getElem_toArray, List.getElem_cons_succ, List.getElem_cons_zero, Act.put, List.setIfInBounds_toArray, List.set_cons_succ, List.set_cons_zero])
      refine wpAnyH_done (by kernel_rfl) ?_ _
      go_wp2_with fail
      go_ret2
      rw [HX.out, ← conn_cat]
      exact ⟨rfl, (HB0.out.trans ((below_drew hb2).mono HB0.out.size)).trans (hb5.mono (by have h1 := HB0.out.size; have h2 := hb2.size; exact Nat.le_trans h1 h2))⟩
  · have HX : Hid (loadW c = (numT c.conn ++ 32 :: textS c.told, false)) := Lib.hid (by simp [loadW, x1])
    have X1 := Lib.hid x1
    clear x1
    go_enter Tryz.func101, Tryz.ntmps101
    go_wp2_with (go_at_call 9; refine (HTx.out _ HE0.out HT0.out).mono ?_; rintro e w2 ⟨rfl, hb2⟩; have d0 := (hb2.cell (lt_of_cell b0)).trans b0; have d10 := (hb2.cell (lt_of_cell b10)).trans b10)
    clear hW0
    have x1 : (c.k == 4) = false := by simpa using X1.out
    refine wp_region_held_drew (S := fun w' => w'.cell? ⟨w.heap.size, 0, none⟩ = some (.int .i64 c.k) ∧ w'.cell? ⟨w.heap.size, 10, none⟩ = some (.int .i64 c.conn)) (by kernel_rfl) ⟨d0, d10⟩ (fun hHeld => ?_)
    (refine wpAnyH_take (i := 0) (v := (.pointer (some ⟨w.heap.size, 10, none⟩))) rfl (by kernel_rfl) (by kernel_rfl) (by kernel_rfl) (fun _ _ _ h => h) (Or.inl ⟨by rfl, by intro w hSw; (try dsimp only at hSw); go_simp; try with_reducible rfl⟩) (by assumption) ?_; simp only [List.getElem_toArray, List.getElem_cons_zero, Act.put, List.setIfInBounds_toArray, List.set_cons_succ, List.set_cons_zero])
    (refine wpAnyH_take (i := 1) (v := (.int .i64 c.conn)) rfl (by kernel_rfl) (by kernel_rfl) (by kernel_rfl) (fun _ _ _ h => h) (Or.inl ⟨by rfl, by intro w hSw; (try dsimp only at hSw); go_simp; try with_reducible rfl⟩) (by assumption) ?_; simp only [List.getElem_toArray, List.getElem_cons_succ, List.getElem_cons_zero, Act.put, List.setIfInBounds_toArray, List.set_cons_succ, List.set_cons_zero])
    (refine wpAnyH_take (i := 4) (v := (.string ⟨(textS c.told).toArray⟩)) rfl (by kernel_rfl) (by kernel_rfl) (by kernel_rfl) (fun _ _ _ h => h) (Or.inl ⟨by rfl, by intro w hSw; (try dsimp only at hSw); go_simp; try with_reducible rfl⟩) (by assumption) ?_; simp only [List.getElem_toArray, List.getElem_cons_succ, List.getElem_cons_zero, Act.put, List.setIfInBounds_toArray, List.set_cons_succ, List.set_cons_zero])
    (refine wpAnyH_take (i := 6) (v := (.pointer (some ⟨w.heap.size, 0, none⟩))) rfl (by kernel_rfl) (by kernel_rfl) (by kernel_rfl) (fun _ _ _ h => h) (Or.inl ⟨by rfl, by intro w hSw; (try dsimp only at hSw); go_simp; try with_reducible rfl⟩) (by assumption) ?_; simp only [List.getElem_toArray, List.getElem_cons_succ, List.getElem_cons_zero, Act.put, List.setIfInBounds_toArray, List.set_cons_succ, List.set_cons_zero])
    (refine wpAnyH_take (i := 7) (v := (.int .i64 c.k)) rfl (by kernel_rfl) (by kernel_rfl) (by kernel_rfl) (fun _ _ _ h => h) (Or.inl ⟨by rfl, by intro w hSw; (try dsimp only at hSw); go_simp; try with_reducible rfl⟩) (by assumption) ?_; simp only [List.getElem_toArray, List.getElem_cons_succ, List.getElem_cons_zero, Act.put, List.setIfInBounds_toArray, List.set_cons_succ, List.set_cons_zero])
    (refine wpAnyH_take (i := 8) (v := (.bool false)) rfl (by kernel_rfl) (by kernel_rfl) (by kernel_rfl) (fun _ _ _ h => h) (Or.inl ⟨by rfl, by intro w hSw; (try dsimp only at hSw); go_simp; try with_reducible rfl⟩) (by assumption) ?_; simp only [List.getElem_toArray, List.getElem_cons_succ, List.getElem_cons_zero, Act.put, List.setIfInBounds_toArray, List.set_cons_succ, List.set_cons_zero])
    refine wpAnyH_ready (rs := [2]) (by kernel_rfl) (by simp) (AllReadyH.cons rfl (fun K' hK => ?_) AllReadyH.nil)
    go_simp
    refine (HN.out _ (HE0.out.below (below_drew hb2))).mono ?_
    rintro e w5 ⟨rfl, hb5⟩
    try go_simp
    refine hK.out _ _ ⟨(hb5.cell (lt_of_cell d0)).trans d0, (hb5.cell (lt_of_cell d10)).trans d10⟩ (fun hHeld5 => ?_)
    clear hK K'
    (refine wpAnyH_take (i := 3) (v := (.string (⟨(numT c.conn).toArray⟩ ++ ⟨#[32]⟩))) rfl (by kernel_rfl) (by kernel_rfl) (by kernel_rfl) (fun _ _ _ h => h) (Or.inl ⟨by rfl, by intro w hSw; (try dsimp only at hSw); go_simp; try with_reducible rfl⟩) (by assumption) ?_; simp only [List.getElem_toArray, List.getElem_cons_succ, List.getElem_cons_zero, Act.put, List.setIfInBounds_toArray, List.set_cons_succ, List.set_cons_zero])
    (refine wpAnyH_take (i := 5) (v := (.string (⟨(numT c.conn).toArray⟩ ++ ⟨#[32]⟩ ++ ⟨(textS c.told).toArray⟩))) rfl (by kernel_rfl) (by kernel_rfl) (by kernel_rfl) (fun _ _ _ h => h) (Or.inl ⟨by rfl, by intro w hSw; (try dsimp only at hSw); go_simp; try with_reducible rfl⟩) (by assumption) ?_; simp only [List.getElem_toArray, List.getElem_cons_succ, List.getElem_cons_zero, Act.put, List.setIfInBounds_toArray, List.set_cons_succ, List.set_cons_zero])
    (refine wpAnyH_take (i := 9) (v := (.bool false)) rfl (by kernel_rfl) (by kernel_rfl) (by kernel_rfl) (fun _ _ _ h => h) (Or.inl ⟨by rfl, by intro w hSw; (try dsimp only at hSw); go_simp; try with_reducible rfl⟩) (by assumption) ?_; simp only [List.getElem_toArray, List.getElem_cons_succ, List.getElem_cons_zero, Act.put, List.setIfInBounds_toArray, List.set_cons_succ, List.set_cons_zero])
    (refine wpAnyH_take (i := 10) (v := undef) rfl (by kernel_rfl) (by kernel_rfl) (by kernel_rfl) (fun _ _ _ h => h) (Or.inr ⟨by rfl, rfl⟩) (by assumption) ?_; simp only [List.getElem_toArray, List.getElem_cons_succ, List.getElem_cons_zero, Act.put, List.setIfInBounds_toArray, List.set_cons_succ, List.set_cons_zero])
    (refine wpAnyH_take (i := 11) (v := undef) rfl (by kernel_rfl) (by kernel_rfl) (by kernel_rfl) (fun _ _ _ h => h) (Or.inr ⟨by rfl, rfl⟩) (by assumption) ?_; simp only [List.getElem_toArray, List.getElem_cons_succ, List.getElem_cons_zero, Act.put, List.setIfInBounds_toArray, List.set_cons_succ, List.set_cons_zero])
    (refine wpAnyH_take (i := 12) (v := (.bool false)) rfl (by kernel_rfl) (by kernel_rfl) (by kernel_rfl) (fun _ _ _ h => h) (Or.inl ⟨by rfl, by intro w hSw; (try dsimp only at hSw); go_simp; try with_reducible rfl⟩) (by assumption) ?_; simp only [List.getElem_toArray, List.getElem_cons_succ, List.getElem_cons_zero, Act.put, List.setIfInBounds_toArray, List.set_cons_succ, List.set_cons_zero])
    (refine wpAnyH_take (i := 13) (v := (.string (⟨(numT c.conn).toArray⟩ ++ ⟨#[32]⟩ ++ ⟨(textS c.told).toArray⟩))) rfl (by kernel_rfl) (by kernel_rfl) (by kernel_rfl) (fun _ _ _ h => h) (Or.inl ⟨by rfl, by intro w hSw; (try dsimp only at hSw); go_simp; try with_reducible rfl⟩) (by assumption) ?_; simp only [List.getElem_toArray, List.getElem_cons_succ, List.getElem_cons_zero, Act.put, List.setIfInBounds_toArray, List.set_cons_succ, List.set_cons_zero])
    (refine wpAnyH_take (i := 14) (v := (.bool false)) rfl (by kernel_rfl) (by kernel_rfl) (by kernel_rfl) (fun _ _ _ h => h) (Or.inl ⟨by rfl, by intro w hSw; (try dsimp only at hSw); go_simp; try with_reducible rfl⟩) (by assumption) ?_; simp only [List.getElem_toArray, List.getElem_cons_succ, List.getElem_cons_zero, Act.put, List.setIfInBounds_toArray, List.set_cons_succ, List.set_cons_zero])
    refine wpAnyH_done (by kernel_rfl) ?_ _
    go_wp2_with fail
    go_ret2
    rw [HX.out, ← conn_cat]
    exact ⟨rfl, (HB0.out.trans ((below_drew hb2).mono HB0.out.size)).trans (hb5.mono (by have h1 := HB0.out.size; have h2 := hb2.size; exact Nat.le_trans h1 h2))⟩

theorem chT_take (l : List Int) (k : Nat) (h : k < l.length) : chT (l.take (k + 1)) = chT (l.take k) ++ numT l[k] := by
  rw [List.take_succ_eq_append_getElem h]
  simp only [chT, List.flatMap_append, List.flatMap_cons, List.flatMap_nil, List.append_nil]
theorem chT_len : ∀ (l : List Int), (∀ x ∈ l, In64 x) → (chT l).length ≤ 22 * l.length
  | [], _ => by simp [chT]
  | n :: r, h => by
    have h1 := numT_len (h n (by simp))
    have h2 := chT_len r (fun x hx => h x (by simp [hx]))
    have e : chT (n :: r) = numT n ++ chT r := by simp [chT]
    rw [e, List.length_append, List.length_cons]; omega
set_option maxRecDepth 100000 in
set_option maxHeartbeats 2000000 in
theorem restartwrite_any (c : C) (v : Value) (w : World) (hf : FitC c) (hE : Env w) (hv : IsC w v c) :
    Calls Tryz.prog 99 #[v] w (Ret w (.tuple #[.string ⟨((restartW c).1).toArray⟩, .bool (restartW c).2])) := by
  obtain ⟨pa, pc, ca, cc, ta, tc, rfl, -, -, -, -, his, -⟩ := hv
  unfold C.val cmdV
  obtain ⟨W0, hW0⟩ : ∃ W0, w.alloc (.cells #[.int .i64 c.k, .int .i64 c.ak, .int .i64 c.ek, .int .i64 c.ec, .int .i64 c.es, .string c.sql, .slice pa c.ps.length pc, .int .i64 c.n, .bool c.log, .slice ca c.ch.length cc, .int .i64 c.conn, .slice ta c.told.length tc] 47) = W0 := ⟨_, rfl⟩
  have HB0 : Hid (Below w.heap.size w W0) := Lib.hid (by rw [← hW0]; exact below_alloc _ _)
  have HR0 : Hid (Blk W0 w.heap.size #[.int .i64 c.k, .int .i64 c.ak, .int .i64 c.ek, .int .i64 c.ec, .int .i64 c.es, .string c.sql, .slice pa c.ps.length pc, .int .i64 c.n, .bool c.log, .slice ca c.ch.length cc, .int .i64 c.conn, .slice ta c.told.length tc] 47) := Lib.hid (by rw [← hW0]; exact Blk.new _ _ _)
  obtain ⟨b0, b1, -, -, -, -, -, -, b8, b9, -⟩ := Blk.c12 HR0.out
  have HE0 : Hid (Env W0) := Lib.hid (hE.below HB0.out)
  have hvi := his.below HB0.out
  clear his hE
  cases hlg : c.log with
  | true =>
    rw [hlg] at b8 hW0
    go_enter Tryz.func99, Tryz.ntmps99
    go_wp2_with fail
    clear hW0
    go_loopw [4, 6, 14] (fun s _ i wr => ∃ k : Nat, k ≤ c.ch.length ∧ i = .int .i64 k ∧ s = .string ⟨([32, 108, 111, 103] ++ chT (c.ch.take k)).toArray⟩ ∧ Below W0.heap.size W0 wr) (fun _ _ i _ => c.ch.length - (intOf i).toNat)
    case atStart => exact ⟨0, by omega, rfl, rfl, Below.refl _ _⟩
    case round =>
      obtain ⟨k, hk, rfl, rfl, hb⟩ := hrel
      have hcl := chT_len (c.ch.take k) (fun x hx => hf.ch x (List.mem_of_mem_take hx))
      have hcl2 : (c.ch.take k).length ≤ k := List.length_take_le _ _
      have hchl := hf.chl
      have hcl3 : (chT (c.ch.take k)).length ≤ 25000000 := by omega
      clear hcl hcl2
      by_cases hlt : k < c.ch.length
      · obtain ⟨b, o, rfl, c0⟩ := (hvi.below hb).at_ hlt
        have HC : Hid (chT (c.ch.take (k + 1)) = chT (c.ch.take k) ++ numT c.ch[k]) := Lib.hid (chT_take c.ch k hlt)
        have hin := hf.ch c.ch[k] (List.getElem_mem hlt)
        have HN := Lib.hid (fun w' hE => num_any c.ch[k] hin w' hE)
        have n1 := numT_len hin
        have HEr := Lib.hid (HE0.out.below hb)
        generalize c.ch[k] = n at c0 HC HN n1
        clear hin
        go_wp2_with (go_at_call 55; refine (HN.out _ HEr.out).mono ?_; rintro e w4 ⟨rfl, hb4⟩)
        go_roundw
        case rel =>
          refine ⟨k + 1, by omega, by go_num, ?_, hb.trans (hb4.mono hb.size)⟩
          rw [HC.out, cat_str]; rfl
        case measure => simp [intOf]; omega
      · have HK : Hid (c.ch.take k = c.ch) := Lib.hid (List.take_of_length_le (by omega))
        have d0 := (hb.cell (lt_of_cell b0)).trans b0
        have d1 := (hb.cell (lt_of_cell b1)).trans b1
        have hbF := HB0.out.trans (hb.mono HB0.out.size)
        by_cases x1 : c.k = 1
        · by_cases x2 : c.ak = 5
          · have HX : Hid (restartW c = ([32, 108, 111, 103] ++ chT c.ch, true)) := Lib.hid (by simp [restartW, x1, x2, hlg, logW])
            rw [x1] at d0
            rw [x2] at d1
            clear x1 x2
            go_wp2_with fail
            go_quiet (fail)
            go_wp2_with fail
            go_ret2
            rw [HX.out, HK.out]
            exact ⟨rfl, below_drewN hbF _⟩
          · have HX : Hid (restartW c = ([32, 108, 111, 103] ++ chT c.ch, false)) := Lib.hid (by simp [restartW, x2, hlg, logW])
            rw [x1] at d0
            have x2 : (c.ak == 5) = false := by simpa using x2
            clear x1
            go_wp2_with fail
            go_quiet (fail)
            go_wp2_with fail
            go_ret2
            rw [HX.out, HK.out]
            exact ⟨rfl, below_drewN hbF _⟩
        · have HX : Hid (restartW c = ([32, 108, 111, 103] ++ chT c.ch, false)) := Lib.hid (by simp [restartW, x1, hlg, logW])
          have x1 : (c.k == 1) = false := by simpa using x1
          go_wp2_with fail
          go_quiet (fail)
          go_wp2_with fail
          go_ret2
          rw [HX.out, HK.out]
          exact ⟨rfl, below_drewN hbF _⟩
  | false =>
    rw [hlg] at b8 hW0
    go_enter Tryz.func99, Tryz.ntmps99
    go_wp2_with fail
    clear hW0
    go_loopw [4, 6, 14] (fun s _ i wr => ∃ k : Nat, k ≤ c.ch.length ∧ i = .int .i64 k ∧ s = .string ⟨([32, 106, 111, 117, 114, 110, 97, 108] ++ chT (c.ch.take k)).toArray⟩ ∧ Below W0.heap.size W0 wr) (fun _ _ i _ => c.ch.length - (intOf i).toNat)
    case atStart => exact ⟨0, by omega, rfl, rfl, Below.refl _ _⟩
    case round =>
      obtain ⟨k, hk, rfl, rfl, hb⟩ := hrel
      have hcl := chT_len (c.ch.take k) (fun x hx => hf.ch x (List.mem_of_mem_take hx))
      have hcl2 : (c.ch.take k).length ≤ k := List.length_take_le _ _
      have hchl := hf.chl
      have hcl3 : (chT (c.ch.take k)).length ≤ 25000000 := by omega
      clear hcl hcl2
      by_cases hlt : k < c.ch.length
      · obtain ⟨b, o, rfl, c0⟩ := (hvi.below hb).at_ hlt
        have HC : Hid (chT (c.ch.take (k + 1)) = chT (c.ch.take k) ++ numT c.ch[k]) := Lib.hid (chT_take c.ch k hlt)
        have hin := hf.ch c.ch[k] (List.getElem_mem hlt)
        have HN := Lib.hid (fun w' hE => num_any c.ch[k] hin w' hE)
        have n1 := numT_len hin
        have HEr := Lib.hid (HE0.out.below hb)
        generalize c.ch[k] = n at c0 HC HN n1
        clear hin
        go_wp2_with (go_at_call 55; refine (HN.out _ HEr.out).mono ?_; rintro e w4 ⟨rfl, hb4⟩)
        go_roundw
        case rel =>
          refine ⟨k + 1, by omega, by go_num, ?_, hb.trans (hb4.mono hb.size)⟩
          rw [HC.out, cat_str]; rfl
        case measure => simp [intOf]; omega
      · have HK : Hid (c.ch.take k = c.ch) := Lib.hid (List.take_of_length_le (by omega))
        have d0 := (hb.cell (lt_of_cell b0)).trans b0
        have d1 := (hb.cell (lt_of_cell b1)).trans b1
        have hbF := HB0.out.trans (hb.mono HB0.out.size)
        by_cases x1 : c.k = 1
        · by_cases x2 : c.ak = 5
          · have HX : Hid (restartW c = ([32, 106, 111, 117, 114, 110, 97, 108] ++ chT c.ch, true)) := Lib.hid (by simp [restartW, x1, x2, hlg, journalW])
            rw [x1] at d0
            rw [x2] at d1
            clear x1 x2
            go_wp2_with fail
            go_quiet (fail)
            go_wp2_with fail
            go_ret2
            rw [HX.out, HK.out]
            exact ⟨rfl, below_drewN hbF _⟩
          · have HX : Hid (restartW c = ([32, 106, 111, 117, 114, 110, 97, 108] ++ chT c.ch, false)) := Lib.hid (by simp [restartW, x2, hlg, journalW])
            rw [x1] at d0
            have x2 : (c.ak == 5) = false := by simpa using x2
            clear x1
            go_wp2_with fail
            go_quiet (fail)
            go_wp2_with fail
            go_ret2
            rw [HX.out, HK.out]
            exact ⟨rfl, below_drewN hbF _⟩
        · have HX : Hid (restartW c = ([32, 106, 111, 117, 114, 110, 97, 108] ++ chT c.ch, false)) := Lib.hid (by simp [restartW, x1, hlg, journalW])
          have x1 : (c.k == 1) = false := by simpa using x1
          go_wp2_with fail
          go_quiet (fail)
          go_wp2_with fail
          go_ret2
          rw [HX.out, HK.out]
          exact ⟨rfl, below_drewN hbF _⟩
end Go.Proofs.YtkkildkleleppaaGreatDoor
