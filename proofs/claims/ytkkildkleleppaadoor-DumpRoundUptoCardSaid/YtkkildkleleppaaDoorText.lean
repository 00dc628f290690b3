/- dump.Text. -/
import Derived.Test.YtkkildkleleppaaDoorRtext
namespace Go.Proofs.YtkkildkleleppaaDoor
open Go.RowKit

set_option maxHeartbeats 2000000 in
theorem Text_any (a : Option Addr) (n c : Nat) (ts : List T) (hn : n = ts.length) (hl : n ≤ 16777216) (hf : fitTs ts) (w : World) (hE : Env w) (h : IsTs w a ts) :
    Calls Tryd.prog 5 #[.slice a n c] w (Ret w (.tuple #[.string ⟨(textS ts).toArray⟩, .int .i64 (textE ts)])) := by
  have HN := Lib.hid hn
  have HE := Lib.hid hE
  have HF := Lib.hid hf
  have H := Lib.hid h
  clear hn hE hf h
  go_enter Tryd.func5, Tryd.ntmps5
  go_wp2
  go_loopw [6, 8, 9, 10, 13] (fun _ _ _ _ i wr => ∃ k : Nat, k ≤ n ∧ i = .int .i64 k ∧ IsB wr w.heap.size w.heap.size (flatT (ts.take k)) ∧ (ts.take k).all T.may = true ∧ Below w.heap.size w wr) (fun _ _ _ _ i _ => n - (intOf i).toNat)
  case atStart => exact ⟨0, by omega, rfl, IsB.fresh w, by simp, (Below.refl _ _).alloc (Nat.le_refl _) _⟩
  case round =>
    obtain ⟨k, hk, rfl, hB, hall, hb⟩ := hrel
    have hpl := flat_len (ts.take k) (fun t ht => HF.out t (List.mem_of_mem_take ht)) hall
    have hpl2 : (ts.take k).length ≤ k := List.length_take_le _ _
    have hpl3 : (flatT (ts.take k)).length ≤ 335544320000 := by omega
    have HA := Lib.hid hall
    clear hpl hpl2 hall
    by_cases hlt : k < n
    · have hkv : k < ts.length := by have := HN.out; omega
      obtain ⟨b, o, rfl, t0, pa, pc, t1, hpc, hvs⟩ := H.out.at_ hkv
      have q0 := (hb.cell (lt_of_cell t0)).trans t0
      have q1 := (hb.cell (lt_of_cell t1)).trans t1
      clear t0 t1
      have HT : Hid (flatT (ts.take (k + 1)) = flatT (ts.take k) ++ ts[k].part) := by
        apply Lib.hid
        rw [List.take_succ_eq_append_getElem hkv, flatT_append, flatT_one]
      have HFv := Lib.hid (HF.out ts[k] (List.getElem_mem hkv))
      have HE2 := Lib.hid (HE.out.below hb)
      have HB : Hid (ts[k].may = false → textS ts = [] ∧ textE ts = 2) := Lib.hid (text_bad ts k hkv)
      have HA2 : Hid (ts[k].may = true → (ts.take (k + 1)).all T.may = true) := by
        apply Lib.hid
        intro hm
        rw [List.take_succ_eq_append_getElem hkv, List.all_append, HA.out]; simp [hm]
      generalize ts[k] = t at q0 q1 hpc hvs HT HFv HB HA2
      obtain ⟨sql, ps⟩ := t
      simp only at q0 q1 hpc hvs
      generalize hm : ps.length = m at q1 hpc
      have HM := Lib.hid hm
      clear hm
      have hz := lt_of_cell q0
      simp only at hz
      have C1 := Lib.hid (fun W (hW : Below wr.heap.size wr W) => dmay_any sql pa m pc ps HM.out.symm W (hvs.below (hb.trans (hW.mono hb.size))))
      cases hmay : T.may ⟨sql, ps⟩ with
      | true =>
        have HY := Lib.hid hmay
        have hsz := may_sql hmay
        have hpl4 := part_len ⟨sql, ps⟩ HFv.out hmay
        have hm16 : m ≤ 16 := by have := hsz.2; have := HM.out; simp only at *; omega
        have hs2 : sql.size ≤ 2000 := hsz.1
        have hvs2 := Lib.hid hvs
        clear hmay hsz hvs
        go_wp2_with fail
        refine (C1.out _ ((Below.refl _ _).alloc (Nat.le_refl _) _)).mono ?_
        rw [HY.out]
        rintro e w2 ⟨rfl, hb2⟩
        have hbx : Below (wr.heap.size + 1) (wr.alloc (.cells #[.string sql, .slice pa m pc] 34)) w2 := hb2.mono (by simp)
        have x0 : w2.cell? ⟨wr.heap.size, 0, none⟩ = some (.string sql) := box_cell hbx 0
        have hB2 : IsB w2 w.heap.size w.heap.size (flatT (ts.take k)) := hB.below (box_below hbx)
        clear hb2
        go_wp2_with fail
        refine (literal_any sql (by omega) _ (HE2.out.below (box_below hbx))).mono ?_
        rintro e w3 ⟨rfl, hb3⟩
        have hbx3 := hbx.trans (hb3.mono (by have := hbx.size; simpa using this))
        have hB3 := hB2.below hb3
        have hz3 : w.heap.size ≤ w3.heap.size := Nat.le_trans hb.size (Nat.le_trans (box_below hbx).size hb3.size)
        clear x0
        go_wp2_with fail
        refine (WriteString_any _ _ _ ⟨(quoted sql.data.toList).toArray⟩ _ hB3 (by have := quoted_len sql.data.toList; have := dbl_len sql.data.toList; rw [size_len] at this; simp [ByteArray.size]; omega) hz3).mono ?_
        rintro e w4 ⟨rfl, hB4, hb4, hk4⟩
        have hne : wr.heap.size ≠ w.heap.size := by have := hB.lt; omega
        have hblk : w4.heap[wr.heap.size]? = some (.cells #[.string sql, .slice pa m pc] 34 (0, 0)) :=
          kept_block hk4 ((hbx3.block wr.heap.size (by omega)).trans (heap_alloc_new wr _)) hne (by decide)
        have x1 : w4.cell? ⟨wr.heap.size, 1, none⟩ = some (.slice pa m pc) := cell_of_row _ _ 1 _ _ _ hblk
        have hbw4 : Below w.heap.size w w4 := (hb.trans ((box_below hbx3).mono hb.size)).trans hb4
        clear hk4 hblk
        go_wp2_with fail
        clear x1 hbx hbx3 hb3 hB2 hB3 hb4 hz3
        go_loopw [8, 9, 10, 27] (fun _ _ _ i wq => ∃ j : Nat, j ≤ m ∧ i = .int .i64 j ∧ IsB wq w.heap.size w.heap.size (flatT (ts.take k) ++ quoted sql.data.toList ++ paramsT (ps.take j)) ∧ Below w.heap.size w wq) (fun _ _ _ i _ => m - (intOf i).toNat)
        case atStart => exact ⟨0, by omega, rfl, by simpa [paramsT] using hB4, hbw4⟩
        case round =>
          obtain ⟨j, hj, rfl, hBq, hbq⟩ := hrel
          have hpj := paramsT_len (ps.take j) (fun v hv => HFv.out v (List.mem_of_mem_take hv))
          have hpj2 : (ps.take j).length ≤ j := List.length_take_le _ _
          have hpj3 : (paramsT (ps.take j)).length ≤ 12864 := by omega
          have hql : (quoted sql.data.toList).length ≤ 4002 := by
            have := quoted_len sql.data.toList
            have := dbl_len sql.data.toList
            rw [size_len] at this
            omega
          clear hpj hpj2
          by_cases hjl : j < m
          · have hjv : j < ps.length := by have := HM.out; omega
            obtain ⟨b', o', rfl, c0, c1, c2⟩ := (hvs2.out.below hbq).at_ hjv
            have HJ : Hid (paramsT (ps.take (j + 1)) = paramsT (ps.take j) ++ (44 :: ps[j].lit)) := by
              apply Lib.hid
              rw [List.take_succ_eq_append_getElem hjv, paramsT_append]; simp [paramsT]
            have HFj := Lib.hid (HFv.out ps[j] (List.getElem_mem hjv))
            have hll := lit_len ps[j] HFj.out
            generalize ps[j] = v at c0 c1 c2 HJ HFj hll
            have HEq := Lib.hid (HE.out.below hbq)
            go_wp2_with fail
            refine (Print_any v HFj.out _ (HEq.out.below ((Below.refl _ _).alloc (Nat.le_refl _) _))).mono ?_
            rintro e w5 ⟨rfl, hb5⟩
            have hB5 := hBq.below (box_below2 hb5)
            have hbq5 := hbq.trans ((box_below2 hb5).mono hbq.size)
            have ht : (ByteArray.mk #[44] ++ ByteArray.mk v.lit.toArray).data.toList = 44 :: v.lit := by rw [show (ByteArray.mk #[44]) = ByteArray.mk [44].toArray from rfl, cat_str]; simp
            have HTl := Lib.hid ht
            clear ht
            go_wp2_with fail
            refine (WriteString_any _ _ _ _ _ hB5 (by simp [ByteArray.size]; omega) hbq5.size).mono ?_
            rintro e w6 ⟨rfl, hB6, hb6, hk6⟩
            rw [HTl.out] at hB6
            clear hk6
            go_wp2_with fail
            go_roundw
            case rel =>
              refine ⟨j + 1, by omega, by go_num, ?_, hbq5.trans hb6⟩
              rw [HJ.out, ← List.append_assoc]
              exact hB6
            case measure => simp [intOf]; omega
          · have hjn : j = m := by omega
            have HK : Hid (ps.take j = ps) := by
              apply Lib.hid
              rw [hjn, ← HM.out]; exact List.take_length
            clear hjn
            go_wp2_with fail
            refine (WriteByte_any _ _ _ 10 _ hBq (by simp; omega) hbq.size).mono ?_
            rintro e w6 ⟨rfl, hB6, hb6, hk6⟩
            clear hk6
            go_wp2_with fail
            go_roundw
            case rel =>
              refine ⟨k + 1, by omega, by go_num, ?_, HA2.out HY.out, hbq.trans hb6⟩
              rw [HT.out, T.part, ← List.append_assoc, ← List.append_assoc]
              rw [HK.out] at hB6
              exact hB6
            case measure => simp [intOf]; omega
      | false =>
        have HY := Lib.hid hmay
        clear hmay
        go_wp2_with (go_at_call 9; refine (C1.out _ ((Below.refl _ _).alloc (Nat.le_refl _) _)).mono ?_; rw [HY.out]; rintro e w2 ⟨rfl, hb2⟩)
        go_ret2
        refine ⟨?_, hb.trans ((box_below2 hb2).mono hb.size)⟩
        rw [(HB.out HY.out).1, (HB.out HY.out).2]; rfl
    · have hkn : k = n := by omega
      have HK : Hid (ts.take k = ts) := by
        apply Lib.hid
        rw [hkn, HN.out]; exact List.take_length
      clear hkn
      go_wp2_with fail
      refine (BString_any _ _ _ _ hB hb.size).mono ?_
      rintro e w4 ⟨rfl, hB4, hb4, hk4⟩
      go_wp2_with fail
      go_ret2
      have h1 := HA.out
      rw [HK.out] at h1
      refine ⟨?_, hb.trans hb4⟩
      rw [(text_ok ts h1).1, (text_ok ts h1).2, HK.out]; rfl
end Go.Proofs.YtkkildkleleppaaDoor
