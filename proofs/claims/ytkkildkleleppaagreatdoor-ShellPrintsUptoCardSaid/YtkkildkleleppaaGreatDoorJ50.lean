/- The document's lines: LineAct, Line, Print. The law walked: bureaulaw32.ShellPrints. -/
import Derived.Test.YtkkildkleleppaaGreatDoorJ49
import Derived.Test.YtkkildkleleppaaGreatDoorJ48
import Derived.Test.YtkkildkleleppaaGreatDoorJ36
import Derived.Test.YtkkildkleleppaaGreatDoorJ37
namespace Go.Proofs.YtkkildkleleppaaGreatDoor
open Go.RowKit

set_option maxRecDepth 100000 in
set_option maxHeartbeats 4000000 in
theorem rlineA_any (c : C) (hf : FitC c) (pa ca : Option Addr) (pc cc : Nat) (w : World) (hE : Env w) (hv : IsVs w pa c.ps) (hi : IsIs w ca c.ch) : Calls Tryz.prog 110 #[.agg #[.int .i64 c.ak, .int .i64 c.ek, .int .i64 c.ec, .int .i64 c.es, .string c.sql, .slice pa c.ps.length pc, .int .i64 c.n, .bool c.log, .slice ca c.ch.length cc]] w (Ret w (.string ⟨(lineA c).toArray⟩)) := by
  obtain ⟨W0, hW0⟩ : ∃ W0, w.alloc (.cells #[.int .i64 c.ak, .int .i64 c.ek, .int .i64 c.ec, .int .i64 c.es, .string c.sql, .slice pa c.ps.length pc, .int .i64 c.n, .bool c.log, .slice ca c.ch.length cc] 45) = W0 := ⟨_, rfl⟩
  have HB : Hid (Below w.heap.size w W0) := Lib.hid (by rw [← hW0]; exact below_alloc _ _)
  have hD : Blk W0 w.heap.size #[.int .i64 c.ak, .int .i64 c.ek, .int .i64 c.ec, .int .i64 c.es, .string c.sql, .slice pa c.ps.length pc, .int .i64 c.n, .bool c.log, .slice ca c.ch.length cc] 45 := by rw [← hW0]; exact Blk.new _ _ _
  have HE := Lib.hid hE
  have HVs := Lib.hid hv
  have HIi := Lib.hid hi
  have HF := Lib.hid hf
  have HNn := Lib.hid (fun w' hE => Num_any c.n hf.n w' hE)
  have n1 := numT_len hf.n
  obtain ⟨a0, a1, a2, a3, a4, a5, a6, a7, a8⟩ := Blk.c9_ hD
  clear hE hv hi hf hD
  by_cases h1 : c.ak = 1
  · have HX : Hid (lineA c = lineE c) := Lib.hid (by simp [lineA, h1])
    rw [h1] at a0
    clear h1
    go_enter Tryz.func110, Tryz.ntmps110
    go_wp2_with (go_at_call 135; refine (rlineE_any c HF.out pa pc _ (HE.out.below HB.out) (HVs.out.below HB.out)).mono ?_; rintro e w1 ⟨rfl, hb1⟩)
    go_ret
    rw [HX.out]
    exact ⟨rfl, bthn HB.out hb1⟩
  by_cases h3 : c.ak = 3
  · have HX : Hid (lineA c = verbW 10) := Lib.hid (by simp [lineA, h3])
    rw [h3] at a0
    clear h1 h3
    go_enter Tryz.func110, Tryz.ntmps110
    go_wp2
    go_ret
    rw [HX.out]
    exact ⟨rfl, HB.out⟩
  by_cases h2 : c.ak = 2
  · have HX : Hid (lineA c = verbW 11 ++ numT c.n) := Lib.hid (by simp [lineA, h2])
    rw [h2] at a0
    clear h1 h2 h3
    go_enter Tryz.func110, Tryz.ntmps110
    go_wp2_with (go_at_call 60; refine (HNn.out _ (HE.out.below HB.out)).mono ?_; rintro e w1 ⟨rfl, hb1⟩)
    go_ret
    rw [HX.out, ← cat_str]
    exact ⟨rfl, bthn HB.out hb1⟩
  by_cases h4 : c.ak = 4
  · have HX : Hid (lineA c = verbW 12 ++ numT c.n) := Lib.hid (by simp [lineA, h4])
    rw [h4] at a0
    clear h1 h2 h3 h4
    go_enter Tryz.func110, Tryz.ntmps110
    go_wp2_with (go_at_call 60; refine (HNn.out _ (HE.out.below HB.out)).mono ?_; rintro e w1 ⟨rfl, hb1⟩)
    go_ret
    rw [HX.out, ← cat_str]
    exact ⟨rfl, bthn HB.out hb1⟩
  have k1 : (c.ak == 1) = false := by simp [h1]
  have k2 : (c.ak == 2) = false := by simp [h2]
  have k3 : (c.ak == 3) = false := by simp [h3]
  have k4 : (c.ak == 4) = false := by simp [h4]
  cases hl : c.log with
  | true =>
    have HX : Hid (lineA c = [114, 101, 115, 116, 97, 114, 116, 32, 108, 111, 103] ++ chT c.ch) := Lib.hid (by simp [lineA, h1, h2, h3, h4, hl, verbW, logW])
    rw [hl] at a7
    rw [hl] at hW0
    clear h1 h2 h3 h4 hl
    go_enter Tryz.func110, Tryz.ntmps110
    go_wp2
    go_loopw [3, 4] (fun s i wr => ∃ k : Nat, k ≤ c.ch.length ∧ i = .int .i64 k ∧ s = .string ⟨([114, 101, 115, 116, 97, 114, 116, 32, 108, 111, 103] ++ chT (c.ch.take k)).toArray⟩ ∧ Below W0.heap.size W0 wr) (fun _ i _ => c.ch.length - (intOf i).toNat)
    case atStart => exact ⟨0, by omega, rfl, rfl, Below.refl _ _⟩
    case round =>
      obtain ⟨k, hk, rfl, rfl, hb⟩ := hrel
      have hcl := chT_len (c.ch.take k) (fun x hx => HF.out.ch x (List.mem_of_mem_take hx))
      have hcl2 : (c.ch.take k).length ≤ k := List.length_take_le _ _
      have hchl := HF.out.chl
      have hcl3 : (chT (c.ch.take k)).length ≤ 25000000 := by omega
      have d8 := (hb.cell (lt_of_cell a8)).trans a8
      have HBr := Lib.hid hb
      clear hcl hcl2
      by_cases hlt : k < c.ch.length
      · obtain ⟨b, o, rfl, c0⟩ := (HIi.out.below (bthn HB.out hb)).at_ hlt
        have HC : Hid (chT (c.ch.take (k + 1)) = chT (c.ch.take k) ++ numT c.ch[k]) := Lib.hid (chT_take c.ch k hlt)
        have hin := HF.out.ch c.ch[k] (List.getElem_mem hlt)
        have HN := Lib.hid (fun w' hE => Num_any c.ch[k] hin w' hE)
        have n1 := numT_len hin
        have HEr := Lib.hid (HE.out.below (bthn HB.out hb))
        have i0 : (0 : Int) ≤ (k : Int) := Int.natCast_nonneg _
        have i1 : (k : Int) < (c.ch.length : Int) := by omega
        generalize c.ch[k] = n at c0 HC HN n1
        clear hin
        go_wp2_with (go_at_call 60; refine (HN.out _ HEr.out).mono ?_; rintro e w4 ⟨rfl, hb4⟩)
        go_roundw
        case rel =>
          refine ⟨k + 1, by omega, by go_num, ?_, HBr.out.trans (hb4.mono HBr.out.size)⟩
          rw [HC.out, cat_str]
          rfl
        case measure => simp [intOf]; omega
      · have HK : Hid (c.ch.take k = c.ch) := Lib.hid (List.take_of_length_le (by omega))
        have i1 : ¬ (k : Int) < (c.ch.length : Int) := by omega
        go_wp2
        go_ret
        rw [HX.out, HK.out]
        exact ⟨rfl, bthn HB.out HBr.out⟩
  | false =>
    have HX : Hid (lineA c = [114, 101, 115, 116, 97, 114, 116, 32, 106, 111, 117, 114, 110, 97, 108] ++ chT c.ch) := Lib.hid (by simp [lineA, h1, h2, h3, h4, hl, verbW, journalW])
    rw [hl] at a7
    rw [hl] at hW0
    clear h1 h2 h3 h4 hl
    go_enter Tryz.func110, Tryz.ntmps110
    go_wp2
    go_loopw [3, 4] (fun s i wr => ∃ k : Nat, k ≤ c.ch.length ∧ i = .int .i64 k ∧ s = .string ⟨([114, 101, 115, 116, 97, 114, 116, 32, 106, 111, 117, 114, 110, 97, 108] ++ chT (c.ch.take k)).toArray⟩ ∧ Below W0.heap.size W0 wr) (fun _ i _ => c.ch.length - (intOf i).toNat)
    case atStart => exact ⟨0, by omega, rfl, rfl, Below.refl _ _⟩
    case round =>
      obtain ⟨k, hk, rfl, rfl, hb⟩ := hrel
      have hcl := chT_len (c.ch.take k) (fun x hx => HF.out.ch x (List.mem_of_mem_take hx))
      have hcl2 : (c.ch.take k).length ≤ k := List.length_take_le _ _
      have hchl := HF.out.chl
      have hcl3 : (chT (c.ch.take k)).length ≤ 25000000 := by omega
      have d8 := (hb.cell (lt_of_cell a8)).trans a8
      have HBr := Lib.hid hb
      clear hcl hcl2
      by_cases hlt : k < c.ch.length
      · obtain ⟨b, o, rfl, c0⟩ := (HIi.out.below (bthn HB.out hb)).at_ hlt
        have HC : Hid (chT (c.ch.take (k + 1)) = chT (c.ch.take k) ++ numT c.ch[k]) := Lib.hid (chT_take c.ch k hlt)
        have hin := HF.out.ch c.ch[k] (List.getElem_mem hlt)
        have HN := Lib.hid (fun w' hE => Num_any c.ch[k] hin w' hE)
        have n1 := numT_len hin
        have HEr := Lib.hid (HE.out.below (bthn HB.out hb))
        have i0 : (0 : Int) ≤ (k : Int) := Int.natCast_nonneg _
        have i1 : (k : Int) < (c.ch.length : Int) := by omega
        generalize c.ch[k] = n at c0 HC HN n1
        clear hin
        go_wp2_with (go_at_call 60; refine (HN.out _ HEr.out).mono ?_; rintro e w4 ⟨rfl, hb4⟩)
        go_roundw
        case rel =>
          refine ⟨k + 1, by omega, by go_num, ?_, HBr.out.trans (hb4.mono HBr.out.size)⟩
          rw [HC.out, cat_str]
          rfl
        case measure => simp [intOf]; omega
      · have HK : Hid (c.ch.take k = c.ch) := Lib.hid (List.take_of_length_le (by omega))
        have i1 : ¬ (k : Int) < (c.ch.length : Int) := by omega
        go_wp2
        go_ret
        rw [HX.out, HK.out]
        exact ⟨rfl, bthn HB.out HBr.out⟩

set_option maxRecDepth 100000 in
set_option maxHeartbeats 4000000 in
theorem rline_any (v : Value) (c : C) (hf : FitC c) (w : World) (hE : Env w) (h : IsC w v c) : Calls Tryz.prog 54 #[v] w (Ret w (.string ⟨(lineS c).toArray⟩)) := by
  obtain ⟨pa, pc, ca, cc, ta, tc, hv, i1, i2, i3, i4, i5, i6⟩ := h
  unfold C.val cmdV at hv
  subst hv
  obtain ⟨W0, hW0⟩ : ∃ W0, w.alloc (.cells #[.int .i64 c.k, .int .i64 c.ak, .int .i64 c.ek, .int .i64 c.ec, .int .i64 c.es, .string c.sql, .slice pa c.ps.length pc, .int .i64 c.n, .bool c.log, .slice ca c.ch.length cc, .int .i64 c.conn, .slice ta c.told.length tc] 47) = W0 := ⟨_, rfl⟩
  have HB : Hid (Below w.heap.size w W0) := Lib.hid (by rw [← hW0]; exact below_alloc _ _)
  have HD : Hid (Blk W0 w.heap.size #[.int .i64 c.k, .int .i64 c.ak, .int .i64 c.ek, .int .i64 c.ec, .int .i64 c.es, .string c.sql, .slice pa c.ps.length pc, .int .i64 c.n, .bool c.log, .slice ca c.ch.length cc, .int .i64 c.conn, .slice ta c.told.length tc] 47) := Lib.hid (by rw [← hW0]; exact Blk.new _ _ _)
  have HE := Lib.hid (hE.below HB.out)
  have HV4 := Lib.hid (i4.below HB.out)
  have HV5 := Lib.hid (i5.below HB.out)
  have HV6 := Lib.hid (i6.below HB.out)
  have HF := Lib.hid hf
  have HNn := Lib.hid (fun w' hE => Num_any c.conn hf.conn w' hE)
  have HT := Lib.hid (fun w' hE h => rText_any ta c.told.length tc c.told rfl (by have := hf.tl; omega) hf.ft w' hE h)
  have n1 := numT_len hf.conn
  have n2 := hf.text
  obtain ⟨a0, a1, a2, a3, a4, a5, a6, a7, a8, a9, a10, a11⟩ := Blk.c12 HD.out
  clear hE hf i1 i2 i3 i4 i5 i6
  by_cases h2 : c.k = 2
  · have HX : Hid (lineS c = verbW 14) := Lib.hid (by simp [lineS, h2])
    rw [h2] at a0
    clear h2
    go_enter Tryz.func54, Tryz.ntmps54
    go_wp2
    go_ret
    rw [HX.out]
    exact ⟨rfl, HB.out⟩
  by_cases h3 : c.k = 3
  · have HX : Hid (lineS c = verbW 15) := Lib.hid (by simp [lineS, h3])
    rw [h3] at a0
    clear h2 h3
    go_enter Tryz.func54, Tryz.ntmps54
    go_wp2
    go_ret
    rw [HX.out]
    exact ⟨rfl, HB.out⟩
  by_cases h4 : c.k = 4
  · have HX : Hid (lineS c = verbW 16 ++ numT c.conn ++ 32 :: textS c.told) := Lib.hid (by simp [lineS, h4])
    rw [h4] at a0
    clear h2 h3 h4
    go_enter Tryz.func54, Tryz.ntmps54
    go_wp2_with (first
      | (go_at_call 11; refine (HT.out _ HE.out HV6.out).mono ?_; rintro e w1 ⟨rfl, hb1⟩; have a10 := (hb1.cell (lt_of_cell a10)).trans a10)
      | (go_at_call 60; refine (HNn.out _ (HE.out.below hb1)).mono ?_; rintro e w2 ⟨rfl, hb2⟩))
    go_ret
    refine ⟨?_, bthn (bthn HB.out hb1) hb2⟩
    rw [HX.out, show (32 :: textS c.told) = [32] ++ textS c.told from rfl, ← List.append_assoc]
    simp only [← cat_str]
    rfl
  · have HX : Hid (lineS c = lineA c) := Lib.hid (by simp [lineS, h2, h3, h4])
    have k2 : (c.k == 2) = false := by simp [h2]
    have k3 : (c.k == 3) = false := by simp [h3]
    have k4 : (c.k == 4) = false := by simp [h4]
    clear h2 h3 h4
    go_enter Tryz.func54, Tryz.ntmps54
    go_wp2_with (go_at_call 110; refine (rlineA_any c HF.out pa ca pc cc _ HE.out HV4.out HV5.out).mono ?_; rintro e w1 ⟨rfl, hb1⟩)
    go_ret
    rw [HX.out]
    exact ⟨rfl, bthn HB.out hb1⟩

/-! ### A line that is long is no load, or a load whose text is -/
theorem first_word {x : UInt8} {r : List UInt8} (hx : x ≠ 32) (hl : x ≠ 108) : verbNo (cutX true false (x :: r)).1 ≠ some 16 := by
  intro h
  have h2 := (verbNo_some h).2
  have h3 : (cutX true false (x :: r)).1 = x :: (cutX true (togP true false x) r).1 := by
    rw [cutX, if_neg (by rintro ⟨e, -⟩; exact hx e)]
  rw [h3] at h2
  simp only [verbW, List.cons.injEq] at h2
  exact hl h2.1.symm
theorem wordOf_first (c : C) : ∃ x r, wordOf c = x :: r ∧ x ≠ 32 ∧ x ≠ 108 := by
  unfold wordOf
  repeat' split
  all_goals exact ⟨_, _, rfl, by decide, by decide⟩
theorem lineE_first (c : C) : ∃ x r, lineE c = x :: r ∧ x ≠ 32 ∧ x ≠ 108 := by
  obtain ⟨x, r, h, h1, h2⟩ := wordOf_first c
  unfold lineE
  split
  · exact ⟨x, r, h, h1, h2⟩
  · rw [h]
    exact ⟨x, _, rfl, h1, h2⟩
theorem lineA_first (c : C) : ∃ x r, lineA c = x :: r ∧ x ≠ 32 ∧ x ≠ 108 := by
  unfold lineA
  split
  · exact lineE_first c
  · split
    · exact ⟨_, _, rfl, by decide, by decide⟩
    · split
      · exact ⟨_, _, rfl, by decide, by decide⟩
      · split
        · exact ⟨_, _, rfl, by decide, by decide⟩
        · exact ⟨_, _, rfl, by decide, by decide⟩
theorem line16 {c : C} (hf : FitC c) (ht : (textS c.told).length ≤ 16700000) (h : verbNo (cutX true false (lineS c)).1 = some 16) : (lineS c).length ≤ 16777216 := by
  have h1 := numT_len hf.conn
  unfold lineS at h ⊢
  split
  · decide
  · split
    · decide
    · split
      · have := verbW_len 16
        simp only [List.length_append, List.length_cons]
        omega
      · rename_i h2 h3 h4
        rw [if_neg h2, if_neg h3, if_neg h4] at h
        obtain ⟨x, r, hx, hx1, hx2⟩ := lineA_first c
        rw [hx] at h
        exact absurd h (first_word hx1 hx2)

set_option maxRecDepth 100000 in
set_option maxHeartbeats 4000000 in
theorem rprint_any (v : Value) (c : C) (hf : FitC c) (ht : (textS c.told).length ≤ 16700000) (w : World) (hE : Env w) (h : IsC w v c) : Calls Tryz.prog 22 #[v] w (Ret w (.tuple #[.string ⟨(printS c).1.toArray⟩, .int .i64 (printS c).2])) := by
  have HI := Lib.hid h
  obtain ⟨pa, pc, ca, cc, ta, tc, hv, -⟩ := h
  unfold C.val cmdV at hv
  subst hv
  obtain ⟨W0, hW0⟩ : ∃ W0, w.alloc (.cells #[.int .i64 c.k, .int .i64 c.ak, .int .i64 c.ek, .int .i64 c.ec, .int .i64 c.es, .string c.sql, .slice pa c.ps.length pc, .int .i64 c.n, .bool c.log, .slice ca c.ch.length cc, .int .i64 c.conn, .slice ta c.told.length tc] 47) = W0 := ⟨_, rfl⟩
  have HB : Hid (Below w.heap.size w W0) := Lib.hid (by rw [← hW0]; exact below_alloc _ _)
  have HD : Hid (Blk W0 w.heap.size #[.int .i64 c.k, .int .i64 c.ak, .int .i64 c.ek, .int .i64 c.ec, .int .i64 c.es, .string c.sql, .slice pa c.ps.length pc, .int .i64 c.n, .bool c.log, .slice ca c.ch.length cc, .int .i64 c.conn, .slice ta c.told.length tc] 47) := Lib.hid (by rw [← hW0]; exact Blk.new _ _ _)
  have HE := Lib.hid (hE.below HB.out)
  have HI0 := Lib.hid (HI.out.below HB.out)
  have HF := Lib.hid hf
  have HL := Lib.hid (fun w' hE h => rline_any (.agg #[.int .i64 c.k, .int .i64 c.ak, .int .i64 c.ek, .int .i64 c.ec, .int .i64 c.es, .string c.sql, .slice pa c.ps.length pc, .int .i64 c.n, .bool c.log, .slice ca c.ch.length cc, .int .i64 c.conn, .slice ta c.told.length tc]) c hf w' hE h)
  have hP := fun w' hE => rparse_any (lineS c) (by have := lineS_len hf; omega) (line16 hf ht) w' hE
  have hll := lineS_len hf
  obtain ⟨a0, a1, a2, a3, a4, a5, a6, a7, a8, a9, a10, a11⟩ := Blk.c12 HD.out
  clear hE ht HI hf
  cases hp : parseS (lineS c) with
  | error n =>
    have HX : Hid (printS c = ([], 2)) := Lib.hid (by unfold printS readAs; rw [hp]; rfl)
    have hn := parse_err hp
    have hn2 : (n != 0) = true := by simp [hn]
    rw [hp] at hP
    have HP := Lib.hid hP
    clear hP hp
    generalize lineS c = l at HL HP hll
    go_enter Tryz.func22, Tryz.ntmps22
    go_wp2_with (first
      | (go_at_call 54; refine (HL.out _ HE.out HI0.out).mono ?_; rintro e w1 ⟨rfl, hb1⟩)
      | (go_at_call 17; refine (HP.out _ (HE.out.below hb1)).mono ?_; rintro e w2 ⟨rfl, hb2⟩))
    go_ret2
    rw [HX.out]
    exact ⟨rfl, bthn (bthn (bthn HB.out hb1) hb2) (below_alloc _ _)⟩
  | ok d =>
    have HLd := Lib.hid (parse_len hp (by omega))
    have hPr : printS c = if sameC c d then (lineS c, 0) else ([], 2) := by unfold printS readAs; rw [hp]
    rw [hp] at hP
    have HP := Lib.hid hP
    clear hP hp
    generalize lineS c = l at HL HP hll hPr
    go_enter Tryz.func22, Tryz.ntmps22
    go_upto_region 3 with (first
      | (go_at_call 54; refine (HL.out _ HE.out HI0.out).mono ?_; rintro e w1 ⟨rfl, hb1⟩)
      | (go_at_call 17; refine (HP.out _ (HE.out.below hb1)).mono ?_; rintro e w2 ⟨vd, rfl, hown, hb2⟩; have HId := Lib.hid hown.is; obtain ⟨qv, rv, sv, xs, hve, ho1, ho2, ho3, htr⟩ := hown; obtain ⟨qa, qc, hpv, -, -, -⟩ := own_form ho1; obtain ⟨da, dc, hcv, -, -, -⟩ := own_form ho2; obtain ⟨sa, sc, htv, -, -, -⟩ := own_form ho3; subst hpv hcv htv; unfold C.val cmdV at hve; subst hve; clear ho1 ho2 ho3 htr))
    generalize hW3 : w2.alloc (Obj.cells #[.int .i64 d.k, .int .i64 d.ak, .int .i64 d.ek, .int .i64 d.ec, .int .i64 d.es, .string d.sql, .slice qa d.ps.length qc, .int .i64 d.n, .bool d.log, .slice da d.ch.length dc, .int .i64 d.conn, .slice sa d.told.length sc] 47) = W3
    have hb3 : Below w2.heap.size w2 W3 := by rw [← hW3]; exact below_alloc _ _
    have hb03 : Below W0.heap.size W0 W3 := bthn (bthn hb1 hb2) hb3
    have hD3 : Blk W3 w2.heap.size #[.int .i64 d.k, .int .i64 d.ak, .int .i64 d.ek, .int .i64 d.ec, .int .i64 d.es, .string d.sql, .slice qa d.ps.length qc, .int .i64 d.n, .bool d.log, .slice da d.ch.length dc, .int .i64 d.conn, .slice sa d.told.length sc] 47 := by rw [← hW3]; exact Blk.new _ _ _
    have HB3 := Lib.hid (bthn HB.out hb03)
    have HS := Lib.hid (rsame_any (.agg #[.int .i64 c.k, .int .i64 c.ak, .int .i64 c.ek, .int .i64 c.ec, .int .i64 c.es, .string c.sql, .slice pa c.ps.length pc, .int .i64 c.n, .bool c.log, .slice ca c.ch.length cc, .int .i64 c.conn, .slice ta c.told.length tc]) (.agg #[.int .i64 d.k, .int .i64 d.ak, .int .i64 d.ek, .int .i64 d.ec, .int .i64 d.es, .string d.sql, .slice qa d.ps.length qc, .int .i64 d.n, .bool d.log, .slice da d.ch.length dc, .int .i64 d.conn, .slice sa d.told.length sc]) c d HF.out.len HLd.out W3 (HI0.out.below hb03) (HId.out.below hb3))
    clear a0 a1 a2 a3 a4 a5 a6 a7 a8 a9 a10 a11
    obtain ⟨u0, u1, u2, u3, u4, u5, u6, u7, u8, u9, u10, u11⟩ := Blk.c12 (Blk.below HD.out hb03)
    obtain ⟨d0, d1, d2, d3, d4, d5, d6, d7, d8, d9, d10, d11⟩ := Blk.c12 hD3
    clear hW3 hb1 hb2 hb3 hb03 hD3 HL HP
    have HPr := Lib.hid hPr
    clear hPr
    cases hs : sameC c d with
    | true =>
      have HX : Hid (printS c = (l, 0)) := Lib.hid (by rw [HPr.out, hs]; rfl)
      rw [hs] at HS
      clear hs
      go_wp2_with (go_at_call 19; refine HS.out.mono ?_; rintro e w4 ⟨rfl, hb4⟩)
      go_ret2
      rw [HX.out]
      exact ⟨rfl, bthn HB3.out hb4⟩
    | false =>
      have HX : Hid (printS c = ([], 2)) := Lib.hid (by rw [HPr.out, hs]; rfl)
      rw [hs] at HS
      clear hs
      go_wp2_with (go_at_call 19; refine HS.out.mono ?_; rintro e w4 ⟨rfl, hb4⟩)
      go_ret2
      rw [HX.out]
      exact ⟨rfl, bthn HB3.out hb4⟩
end Go.Proofs.YtkkildkleleppaaGreatDoor
namespace Go.Proofs.YtkkildkleleppaaGreatDoor
open Go.RowKit

set_option maxRecDepth 100000 in
set_option maxHeartbeats 4000000 in
theorem prints_any (v : Value) (c : C) (hf : FitC c) (ht : (textS c.told).length ≤ 16700000) (w : World) (hE : Env w) (h : IsC w v c) : Calls Tryz.prog 6 #[v] w (Ret w (.bool true)) := by
  have HI := Lib.hid h
  obtain ⟨pa, pc, ca, cc, ta, tc, hv, -⟩ := h
  unfold C.val cmdV at hv
  subst hv
  obtain ⟨W0, hW0⟩ : ∃ W0, w.alloc (.cells #[.int .i64 c.k, .int .i64 c.ak, .int .i64 c.ek, .int .i64 c.ec, .int .i64 c.es, .string c.sql, .slice pa c.ps.length pc, .int .i64 c.n, .bool c.log, .slice ca c.ch.length cc, .int .i64 c.conn, .slice ta c.told.length tc] 47) = W0 := ⟨_, rfl⟩
  have HB : Hid (Below w.heap.size w W0) := Lib.hid (by rw [← hW0]; exact below_alloc _ _)
  have HD : Hid (Blk W0 w.heap.size #[.int .i64 c.k, .int .i64 c.ak, .int .i64 c.ek, .int .i64 c.ec, .int .i64 c.es, .string c.sql, .slice pa c.ps.length pc, .int .i64 c.n, .bool c.log, .slice ca c.ch.length cc, .int .i64 c.conn, .slice ta c.told.length tc] 47) := Lib.hid (by rw [← hW0]; exact Blk.new _ _ _)
  have HE := Lib.hid (hE.below HB.out)
  have HI0 := Lib.hid (HI.out.below HB.out)
  have HC := Lib.hid (fun v w' h => copied32_any v c hf w' h)
  have hS := fun v w' hE h => sprint_any v c hf w' hE h
  rw [printV_eq] at hS
  have HR := Lib.hid (fun v w' hE h => rprint_any v c hf ht w' hE h)
  generalize printS c = x at hS HR
  obtain ⟨x, n⟩ := x
  simp only at hS HR
  have HS := Lib.hid hS
  obtain ⟨a0, a1, a2, a3, a4, a5, a6, a7, a8, a9, a10, a11⟩ := Blk.c12 HD.out
  clear hE hf ht hS HI
  go_enter Tryz.func6, Tryz.ntmps6
  go_upto_region 2 with (first
    | (go_at_call 21; refine (HC.out _ _ HI0.out).mono ?_; rintro e w1 ⟨v1, rfl, hown, hb1⟩; have HI1 := Lib.hid hown.is)
    | (go_at_call 20; refine (HS.out _ _ (HE.out.below hb1) HI1.out).mono ?_; rintro e w2 ⟨rfl, hb2⟩))
  have hb12 := bthn hb1 hb2
  have HB2 := Lib.hid (bthn HB.out hb12)
  have HI2 := Lib.hid (HI0.out.below hb12)
  have HE2 := Lib.hid (HE.out.below hb12)
  clear a0 a1 a2 a3 a4 a5 a6 a7 a8 a9 a10 a11
  obtain ⟨a0, a1, a2, a3, a4, a5, a6, a7, a8, a9, a10, a11⟩ := Blk.c12 (Blk.below HD.out hb12)
  clear hb1 hb2 hb12 hown HI1 HS HC
  go_wp2_with (first
    | (go_at_call 22; refine (HR.out _ _ HE2.out HI2.out).mono ?_; rintro e w3 ⟨rfl, hb3⟩)
    | (go_at_call 18; refine (head32_any _ (HE2.out.below hb3)).mono ?_; rintro e w4 ⟨rfl, hb4⟩))
  go_ret
  exact ⟨rfl, bthn (bthn HB2.out hb3) hb4⟩
end Go.Proofs.YtkkildkleleppaaGreatDoor
