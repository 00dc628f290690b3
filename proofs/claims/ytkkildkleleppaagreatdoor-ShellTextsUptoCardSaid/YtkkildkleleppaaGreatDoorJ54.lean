/- The document's texts of results and answers. The shell's texts of results. -/
import Derived.Test.YtkkildkleleppaaGreatDoorJ31
import Derived.Test.YtkkildkleleppaaGreatDoorJ37
import Derived.Test.YtkkildkleleppaaGreatDoorJ49
import Derived.Test.YtkkildkleleppaaGreatDoorJ25
namespace Go.Proofs.YtkkildkleleppaaGreatDoor
open Go.RowKit

theorem namesT_take (l : List ByteArray) (k : Nat) (h : k < l.length) : namesT (l.take (k + 1)) = namesT (l.take k) ++ (if 0 < k then [44] else []) ++ l[k].data.toList := by
  unfold namesT
  cases l with
  | nil => simp at h
  | cons x r =>
    cases k with
    | zero => simp [Lib.join_one, Lib.join_nil]
    | succ j =>
      have hj : j < r.length := by simpa using h
      have h1 : (r.map (·.data.toList))[j]? = some r[j].data.toList := by simp [hj]
      simp only [List.take_succ_cons, List.map_cons, Lib.join_cons, Nat.zero_lt_succ, if_true, List.getElem_cons_succ, List.map_take]
      rw [Lib.joinTail_take_succ [44] _ _ _ h1]
      simp [List.append_assoc]
theorem namesT_take_le (l : List ByteArray) (k : Nat) : (namesT (l.take k)).length ≤ (namesT l).length := by
  rcases Nat.lt_or_ge k l.length with h | h
  · have e : l.take k ++ l.drop k = l := List.take_append_drop k l
    unfold namesT
    cases l with
    | nil => simp
    | cons x r =>
      cases k with
      | zero => simp [Lib.join_nil]
      | succ j =>
        simp only [List.take_succ_cons, List.map_cons, Lib.join_cons, List.length_append, List.map_take]
        have : (Lib.joinTail [44] ((r.map (·.data.toList)).take j)).length ≤ (Lib.joinTail [44] (r.map (·.data.toList))).length := by
          have e2 : r.map (·.data.toList) = (r.map (·.data.toList)).take j ++ (r.map (·.data.toList)).drop j := (List.take_append_drop _ _).symm
          conv => rhs; rw [e2]
          unfold Lib.joinTail
          rw [List.map_append, List.flatten_append, List.length_append]
          omega
        omega
  · rw [List.take_of_length_le h]
    exact Nat.le_refl _
theorem rowsT_take (l : List (List V)) (k : Nat) (h : k < l.length) : rowsT (l.take (k + 1)) = rowsT (l.take k) ++ (litsT l[k] ++ [10]) := by
  rw [List.take_succ_eq_append_getElem h]
  simp only [rowsT, List.flatMap_append, List.flatMap_cons, List.flatMap_nil, List.append_nil]
theorem rowsT_take_le (l : List (List V)) (k : Nat) : (rowsT (l.take k)).length ≤ (rowsT l).length := by
  have e : rowsT l = rowsT (l.take k) ++ rowsT (l.drop k) := by
    conv => lhs; rw [← List.take_append_drop k l]
    simp only [rowsT, List.flatMap_append]
  rw [e, List.length_append]
  omega
def headR (a : A) : List UInt8 := [114, 111, 119, 115] ++ numT (a.rows.length : Int) ++ [10]
theorem resultT_rows {a : A} (h : a.names ≠ []) : resultT a = headR a ++ namesT a.names ++ [10] ++ rowsT a.rows := by
  unfold resultT headR
  rw [if_neg h]

set_option maxRecDepth 100000 in
set_option maxHeartbeats 4000000 in
theorem rresult_any (a : A) (hf : FitA a) (na ra : Option Addr) (nc rc : Nat) (w : World) (hE : Env w) (hn : IsSs w na a.names) (hr : IsRs w ra a.rows) : Calls Tryz.prog 62 #[.agg #[.slice na a.names.length nc, .slice ra a.rows.length rc, .int .i64 a.ch]] w (Ret w (.string ⟨(resultT a).toArray⟩)) := by
  obtain ⟨W0, hW0⟩ : ∃ W0, w.alloc (.cells #[.slice na a.names.length nc, .slice ra a.rows.length rc, .int .i64 a.ch] 60) = W0 := ⟨_, rfl⟩
  have HB : Hid (Below w.heap.size w W0) := Lib.hid (by rw [← hW0]; exact below_alloc _ _)
  have hD : Blk W0 w.heap.size #[.slice na a.names.length nc, .slice ra a.rows.length rc, .int .i64 a.ch] 60 := by rw [← hW0]; exact Blk.new _ _ _
  have HE := Lib.hid (hE.below HB.out)
  have HN := Lib.hid (hn.below HB.out)
  have HR := Lib.hid (hr.below HB.out)
  have a0 : W0.cell? ⟨w.heap.size, 0, none⟩ = some (.slice na a.names.length nc) := Blk.cell hD 0
  have a1 : W0.cell? ⟨w.heap.size, 1, none⟩ = some (.slice ra a.rows.length rc) := Blk.cell hD 1
  have a2 : W0.cell? ⟨w.heap.size, 2, none⟩ = some (.int .i64 a.ch) := Blk.cell hD 2
  have HF := Lib.hid hf
  clear hE hn hr hD hf
  by_cases h0 : a.names = []
  · have HX : Hid (resultT a = [99, 104, 97, 110, 103, 101, 115] ++ numT a.ch ++ [10]) := Lib.hid (by unfold resultT; rw [if_pos h0])
    have HC := Lib.hid (fun w' hE => Num_any a.ch HF.out.ch w' hE)
    have n1 := numT_len HF.out.ch
    rw [h0] at a0
    simp only [List.length_nil] at a0
    clear h0
    go_enter Tryz.func62, Tryz.ntmps62
    go_wp2_with (go_at_call 60; refine (HC.out _ HE.out).mono ?_; rintro e w1 ⟨rfl, hb1⟩)
    go_ret
    refine ⟨?_, bthn HB.out hb1⟩
    rw [HX.out, ← cat_str, ← cat_str]
    rfl
  · have HX := Lib.hid (resultT_rows h0)
    have hl : 0 < a.names.length := List.length_pos_iff.2 h0
    have hr64 : In64 (a.rows.length : Int) := ⟨by omega, by have := HF.out.rl; omega⟩
    have HC := Lib.hid (fun w' hE => Num_any (a.rows.length : Int) hr64 w' hE)
    have n1 := numT_len hr64
    have HH : Hid (headR a = [114, 111, 119, 115] ++ numT (a.rows.length : Int) ++ [10]) := Lib.hid rfl
    have hnl := HF.out.nl
    have hrl := HF.out.rl
    have hnt := HF.out.nt
    have hrt := HF.out.rt
    have k0 : ¬ (a.names.length : Int) = 0 := by omega
    have k1 : ((a.names.length : Int) == 0) = false := by simp; omega
    clear h0 hr64
    go_enter Tryz.func62, Tryz.ntmps62
    go_wp2_with (go_at_call 60; refine (HC.out _ HE.out).mono ?_; rintro e w1 ⟨rfl, hb1⟩; have a0 := (hb1.cell (lt_of_cell a0)).trans a0; have a1 := (hb1.cell (lt_of_cell a1)).trans a1)
    have hH : ByteArray.mk #[114, 111, 119, 115] ++ ByteArray.mk (numT (a.rows.length : Int)).toArray ++ ByteArray.mk #[10] = ByteArray.mk (headR a).toArray := by rw [HH.out, ← cat_str, ← cat_str]
    rw [hH]
    have hHl : (headR a).length ≤ 40 := by rw [HH.out]; simp only [List.length_append, List.length_cons, List.length_nil]; omega
    generalize headR a = H at HX hHl
    clear hH HH
    have HB1 := Lib.hid (bthn HB.out hb1)
    have HE1 := Lib.hid (HE.out.below hb1)
    have HN1 := Lib.hid (HN.out.below hb1)
    have HR1 := Lib.hid (HR.out.below hb1)
    clear hb1 HC
    go_loopw [3, 4] (fun s i wr => ∃ k : Nat, k ≤ a.names.length ∧ i = .int .i64 k ∧ s = .string ⟨(H ++ namesT (a.names.take k)).toArray⟩ ∧ Below w1.heap.size w1 wr) (fun _ i _ => a.names.length - (intOf i).toNat)
    case atStart => exact ⟨0, by omega, rfl, by simp [namesT, Lib.join_nil], Below.refl _ _⟩
    case round =>
      obtain ⟨k, hk, rfl, rfl, hb⟩ := hrel
      have d0 := (hb.cell (lt_of_cell a0)).trans a0
      have d1 := (hb.cell (lt_of_cell a1)).trans a1
      have hs1 := Nat.le_trans (namesT_take_le a.names k) hnt
      have HBr := Lib.hid hb
      have i0 : (0 : Int) ≤ (k : Int) := Int.natCast_nonneg _
      by_cases hlt : k < a.names.length
      · obtain ⟨b, o, rfl, c0⟩ := (HN1.out.below hb).at_ hlt
        have i1 : (k : Int) < (a.names.length : Int) := by omega
        have hT := namesT_take a.names k hlt
        have hz : a.names[k].size ≤ 20000000 := by
          have h1 := Nat.le_trans (namesT_take_le a.names (k + 1)) hnt
          rw [hT] at h1
          simp only [List.length_append, size_len] at h1
          omega
        have HT := Lib.hid hT
        generalize a.names[k] = x at c0 HT hz
        clear hT
        by_cases hk0 : 0 < k
        · have i2 : (0 : Int) < (k : Int) := by omega
          rw [if_pos hk0] at HT
          go_wp2
          go_roundw
          case rel =>
            refine ⟨k + 1, by omega, by go_num, ?_, HBr.out⟩
            rw [HT.out, show (ByteArray.mk #[44]) = ByteArray.mk [44].toArray from rfl, cat_str, cat_sql]
            simp [List.append_assoc]
          case measure => simp [intOf]; omega
        · have i2 : ¬ (0 : Int) < (k : Int) := by omega
          rw [if_neg hk0] at HT
          go_wp2
          go_roundw
          case rel =>
            refine ⟨k + 1, by omega, by go_num, ?_, HBr.out⟩
            rw [HT.out, cat_sql]
            simp [List.append_assoc]
          case measure => simp [intOf]; omega
      · have hkn : k = a.names.length := by omega
        subst hkn
        have i1 : ¬ (a.names.length : Int) < (a.names.length : Int) := by omega
        have HK : Hid (a.names.take a.names.length = a.names) := Lib.hid List.take_length
        rw [HK.out]
        generalize hP : H ++ namesT a.names ++ [10] = P
        have hPl : P.length ≤ 20000100 := by rw [← hP]; simp only [List.length_append, List.length_cons, List.length_nil]; omega
        have HPs : Hid (ByteArray.mk (H ++ namesT a.names).toArray ++ ByteArray.mk #[10] = ByteArray.mk P.toArray) := Lib.hid (by rw [← hP]; exact cat_str (H ++ namesT a.names) [10])
        rw [hP] at HX
        go_wp2
        rw [HPs.out]
        have HN2 := Lib.hid (HR1.out.below hb)
        have HE2 := Lib.hid (HE1.out.below hb)
        have HB2 := Lib.hid (bthn HB1.out hb)
        clear hP HPs hb HK a0 a1 a2 hs1
        go_loopw [3, 5] (fun s i wr2 => ∃ k : Nat, k ≤ a.rows.length ∧ i = .int .i64 k ∧ s = .string ⟨(P ++ rowsT (a.rows.take k)).toArray⟩ ∧ Below wr.heap.size wr wr2) (fun _ i _ => a.rows.length - (intOf i).toNat)
        case atStart => exact ⟨0, by omega, rfl, by simp [rowsT], Below.refl _ _⟩
        case round =>
          obtain ⟨k, hk, rfl, rfl, hb⟩ := hrel
          have d1 := (hb.cell (lt_of_cell d1)).trans d1
          have hs1 := Nat.le_trans (rowsT_take_le a.rows k) hrt
          have HBq := Lib.hid hb
          have i0 : (0 : Int) ≤ (k : Int) := Int.natCast_nonneg _
          by_cases hlt : k < a.rows.length
          · obtain ⟨b, o, rfl, pa, pc, c0, hpc, hvs⟩ := (HN2.out.below hb).at_ hlt
            have i1 : (k : Int) < (a.rows.length : Int) := by omega
            obtain ⟨hin1, hin2⟩ := HF.out.rf a.rows[k] (List.getElem_mem hlt)
            have hT := rowsT_take a.rows k hlt
            have hz : (litsT a.rows[k]).length ≤ 40000000 := by
              have h1 := Nat.le_trans (rowsT_take_le a.rows (k + 1)) hrt
              rw [hT] at h1
              simp only [List.length_append] at h1
              omega
            have HT := Lib.hid hT
            have hin3 : a.rows[k].length ≤ 16777216 := by omega
            have HL := Lib.hid (fun w' (hE : Env w') (hvv : IsVs w' pa (a.rows[k]'hlt)) => Literals_any pa a.rows[k].length pc a.rows[k] rfl hin3 hin1 w' hE hvv)
            have HVs := Lib.hid hvs
            have HEr := Lib.hid (HE2.out.below hb)
            generalize a.rows[k] = r at c0 HT HL HVs hz hin1 hin2 hin3 hpc hvs hT
            clear hT hin1 hin2 hin3 hpc hvs
            go_wp2_with (go_at_call 63; refine (HL.out _ HEr.out HVs.out).mono ?_; rintro e w4 ⟨rfl, hb4⟩)
            go_roundw
            case rel =>
              refine ⟨k + 1, by omega, by go_num, ?_, bthn HBq.out hb4⟩
              rw [HT.out, show (ByteArray.mk #[10]) = ByteArray.mk [10].toArray from rfl, cat_str, cat_str]
              simp [List.append_assoc]
            case measure => simp [intOf]; omega
          · have hkn : k = a.rows.length := by omega
            subst hkn
            have i1 : ¬ (a.rows.length : Int) < (a.rows.length : Int) := by omega
            have HK : Hid (a.rows.take a.rows.length = a.rows) := Lib.hid List.take_length
            rw [HK.out]
            go_wp2
            go_ret
            rw [HX.out]
            exact ⟨rfl, bthn HB2.out HBq.out⟩
end Go.Proofs.YtkkildkleleppaaGreatDoor
namespace Go.Proofs.YtkkildkleleppaaGreatDoor
open Go.RowKit

theorem litsOf_any (a : Option Addr) (n c : Nat) (ps : List V) (hn : n = ps.length) (hl : n ≤ 16777216) (hf : fitVs ps) (w : World) (hE : Env w) (h : IsVs w a ps) :
    Calls Tryz.prog 113 #[.slice a n c] w (Ret w (.string ⟨(litsT ps).toArray⟩)) := by
  have HP := Lib.hid (params_any a n c ps hn hl hf w hE h)
  have hT := Tryz.strings_TrimPrefix ⟨(32 :: litsT ps).toArray⟩ ⟨#[32]⟩
  have e : Lib.trimPrefix (⟨(32 :: litsT ps).toArray⟩ : ByteArray).data.toList (⟨#[32]⟩ : ByteArray).data.toList = litsT ps := by
    rw [toList_arr]
    simp [Lib.trimPrefix, Lib.hasPrefix]
  rw [e] at hT
  have HT := Lib.hid hT
  clear hT e hE h hf hl hn
  go_enter Tryz.func113, Tryz.ntmps113
  go_wp2_with (first
    | (go_at_call 59; refine HP.out.mono ?_; rintro e w1 ⟨rfl, hb1⟩)
    | (go_at_call 138; refine (HT.out _).mono ?_; rintro e w2 ⟨rfl, rfl⟩))
  go_ret
  exact ⟨rfl, hb1⟩
theorem yes_any (is : Bool) (x y : List UInt8) (hx : x.length ≤ 50000000) (hy : y.length ≤ 50000000) (w : World) :
    Calls Tryz.prog 58 #[.bool is, .string ⟨x.toArray⟩, .string ⟨y.toArray⟩] w (Ret w (.string ⟨((if is then x else y) ++ [10]).toArray⟩)) := by
  cases is
  all_goals
    go_enter Tryz.func58, Tryz.ntmps58
    go_wp2
    go_ret
    refine ⟨?_, Below.refl _ _⟩
    simp only [← cat_str]
    rfl

set_option maxRecDepth 100000 in
set_option maxHeartbeats 4000000 in
theorem sresult_any (a : A) (hf : FitA a) (na ra : Option Addr) (nc rc : Nat) (hnc : a.names.length ≤ nc) (w : World) (hE : Env w) (hn : IsSs w na a.names) (hr : IsRs w ra a.rows) : Calls Tryz.prog 57 #[.agg #[.slice na a.names.length nc, .slice ra a.rows.length rc, .int .i64 a.ch]] w (Ret w (.string ⟨(resultT a).toArray⟩)) := by
  obtain ⟨W0, hW0⟩ : ∃ W0, w.alloc (.cells #[.slice na a.names.length nc, .slice ra a.rows.length rc, .int .i64 a.ch] 60) = W0 := ⟨_, rfl⟩
  have HB : Hid (Below w.heap.size w W0) := Lib.hid (by rw [← hW0]; exact below_alloc _ _)
  have hD : Blk W0 w.heap.size #[.slice na a.names.length nc, .slice ra a.rows.length rc, .int .i64 a.ch] 60 := by rw [← hW0]; exact Blk.new _ _ _
  have HE := Lib.hid (hE.below HB.out)
  have HN := Lib.hid (hn.below HB.out)
  have HR := Lib.hid (hr.below HB.out)
  have a0 : W0.cell? ⟨w.heap.size, 0, none⟩ = some (.slice na a.names.length nc) := Blk.cell hD 0
  have a1 : W0.cell? ⟨w.heap.size, 1, none⟩ = some (.slice ra a.rows.length rc) := Blk.cell hD 1
  have a2 : W0.cell? ⟨w.heap.size, 2, none⟩ = some (.int .i64 a.ch) := Blk.cell hD 2
  have HF := Lib.hid hf
  have HZ : Hid (w.heap.size < W0.heap.size) := Lib.hid (Blk.lt hD)
  clear hE hn hr hD hf
  by_cases h0 : a.names = []
  · have HX : Hid (resultT a = [99, 104, 97, 110, 103, 101, 115] ++ numT a.ch ++ [10]) := Lib.hid (by unfold resultT; rw [if_pos h0])
    have HC := Lib.hid (fun w' hE => num_any a.ch HF.out.ch w' hE)
    have n1 := numT_len HF.out.ch
    rw [h0] at a0
    simp only [List.length_nil] at a0
    clear h0
    go_enter Tryz.func57, Tryz.ntmps57
    go_wp2_with (go_at_call 55; refine (HC.out _ HE.out).mono ?_; rintro e w1 ⟨rfl, hb1⟩)
    go_ret
    refine ⟨?_, bthn HB.out hb1⟩
    rw [HX.out, ← cat_str, ← cat_str]
    rfl
  · have HX := Lib.hid (resultT_rows h0)
    have hl : 0 < a.names.length := List.length_pos_iff.2 h0
    have hr64 : In64 (a.rows.length : Int) := ⟨by omega, by have := HF.out.rl; omega⟩
    have HC := Lib.hid (fun w' hE => num_any (a.rows.length : Int) hr64 w' hE)
    have n1 := numT_len hr64
    have hnl := HF.out.nl
    have hrl := HF.out.rl
    have hnt := HF.out.nt
    have hrt := HF.out.rt
    have HJ := Lib.hid (fun w' h => Join_any na a.names.length nc a.names ⟨#[44]⟩ w' h rfl hnc (by omega) (by have e : (Lib.join (a.names.map (·.data.toList)) (⟨#[44]⟩ : ByteArray).data.toList).length = (namesT a.names).length := rfl; rw [e]; omega))
    have e1 : Lib.join (a.names.map (·.data.toList)) (⟨#[44]⟩ : ByteArray).data.toList = namesT a.names := rfl
    rw [e1] at HJ
    have k1 : ((a.names.length : Int) == 0) = false := beq_eq_false_iff_ne.2 (by omega)
    obtain ⟨P, hP⟩ : ∃ P, headR a ++ namesT a.names ++ [10] = P := ⟨_, rfl⟩
    have HPb : Hid (ByteArray.mk #[114, 111, 119, 115] ++ ByteArray.mk (numT (a.rows.length : Int)).toArray ++ ByteArray.mk #[10] ++ ByteArray.mk (namesT a.names).toArray ++ ByteArray.mk #[10] = ByteArray.mk P.toArray) := Lib.hid (by rw [← hP]; unfold headR; simp only [← cat_str])
    have hPl : P.length ≤ 20000100 := by rw [← hP]; simp only [headR, List.length_append, List.length_cons, List.length_nil]; omega
    rw [hP] at HX
    clear h0 hr64 e1 hP
    have A0 := Lib.hid a0
    have A1 := Lib.hid a1
    generalize hWb : W0.alloc (.cells #[.pointer none, .slice none 0 0] 69) = Wb
    have HBb : Hid (IsB Wb W0.heap.size W0.heap.size []) := Lib.hid (by rw [← hWb]; exact IsB.fresh W0)
    have HLb : Hid (Below W0.heap.size W0 Wb) := Lib.hid (by rw [← hWb]; exact below_alloc _ _)
    have b0 := (HLb.out.cell (lt_of_cell a0)).trans a0
    have b1 := (HLb.out.cell (lt_of_cell a1)).trans a1
    go_enter Tryz.func57, Tryz.ntmps57
    go_wp2_with fail
    have B0 := Lib.hid b0
    have B1 := Lib.hid b1
    have HEb := Lib.hid (HE.out.below HLb.out)
    have HNb := Lib.hid (HN.out.below HLb.out)
    have hLs := HLb.out.size
    refine wp_region_held_drew (S := fun w' => w'.cell? ⟨w.heap.size, 0, none⟩ = some (.slice na a.names.length nc) ∧ w'.cell? ⟨w.heap.size, 1, none⟩ = some (.slice ra a.rows.length rc)) (by kernel_rfl) ⟨b0, b1⟩ (fun hHeld => ?_)
    (refine wpAnyH_take (i := 0) (v := (.pointer (some ⟨w.heap.size, 1, none⟩))) rfl (by kernel_rfl) (by kernel_rfl) (by kernel_rfl) (fun _ _ _ h => h) (Or.inl ⟨by rfl, by intro w hSw; (try dsimp only at hSw); go_simp; try with_reducible rfl⟩) (by assumption) ?_; simp only [List.getElem_toArray, List.getElem_cons_zero, Act.put, List.setIfInBounds_toArray, List.set_cons_succ, List.set_cons_zero])
    (refine wpAnyH_take (i := 1) (v := (.slice ra a.rows.length rc)) rfl (by kernel_rfl) (by kernel_rfl) (by kernel_rfl) (fun _ _ _ h => h) (Or.inl ⟨by rfl, by intro w hSw; (try dsimp only at hSw); go_simp; (try with_reducible rfl); (try omega)⟩) (by assumption) ?_; simp only [List.getElem_toArray, List.getElem_cons_succ, List.getElem_cons_zero, Act.put, List.setIfInBounds_toArray, List.set_cons_succ, List.set_cons_zero])
    (refine wpAnyH_take (i := 2) (v := (.int .i64 (a.rows.length : Int))) rfl (by kernel_rfl) (by kernel_rfl) (by kernel_rfl) (fun _ _ _ h => h) (Or.inl ⟨by rfl, by intro w hSw; (try dsimp only at hSw); go_simp; (try with_reducible rfl); (try omega)⟩) (by assumption) ?_; simp only [List.getElem_toArray, List.getElem_cons_succ, List.getElem_cons_zero, Act.put, List.setIfInBounds_toArray, List.set_cons_succ, List.set_cons_zero])
    (refine wpAnyH_take (i := 6) (v := (.pointer (some ⟨w.heap.size, 0, none⟩))) rfl (by kernel_rfl) (by kernel_rfl) (by kernel_rfl) (fun _ _ _ h => h) (Or.inl ⟨by rfl, by intro w hSw; (try dsimp only at hSw); go_simp; (try with_reducible rfl); (try omega)⟩) (by assumption) ?_; simp only [List.getElem_toArray, List.getElem_cons_succ, List.getElem_cons_zero, Act.put, List.setIfInBounds_toArray, List.set_cons_succ, List.set_cons_zero])
    (refine wpAnyH_take (i := 7) (v := (.slice na a.names.length nc)) rfl (by kernel_rfl) (by kernel_rfl) (by kernel_rfl) (fun _ _ _ h => h) (Or.inl ⟨by rfl, by intro w hSw; (try dsimp only at hSw); go_simp; (try with_reducible rfl); (try omega)⟩) (by assumption) ?_; simp only [List.getElem_toArray, List.getElem_cons_succ, List.getElem_cons_zero, Act.put, List.setIfInBounds_toArray, List.set_cons_succ, List.set_cons_zero])
    refine wpAnyH_ready (rs := [3]) (by kernel_rfl) (by simp) (AllReadyH.cons rfl (fun K' hK => ?_) AllReadyH.nil)
    go_simp
    refine (HC.out _ (HEb.out.below (below_drew (Below.refl _ _)))).mono ?_
    rintro e w1 ⟨rfl, hb1'⟩
    have hbw1 : Below Wb.heap.size Wb w1 := (below_drew (Below.refl _ _)).trans hb1'
    have hbx1 : Below W0.heap.size W0 w1 := bthn HLb.out hbw1
    have HB1 : Hid (IsB w1 W0.heap.size W0.heap.size []) := Lib.hid (HBb.out.below hbw1)
    try go_simp
    refine hK.out _ _ ⟨(hbx1.cell (lt_of_cell A0.out)).trans A0.out, (hbx1.cell (lt_of_cell A1.out)).trans A1.out⟩ (fun _ => ?_)
    clear hK K'
    (refine wpAnyH_take (i := 4) (v := (.string (⟨#[114, 111, 119, 115]⟩ ++ ⟨(numT (a.rows.length : Int)).toArray⟩))) rfl (by kernel_rfl) (by kernel_rfl) (by kernel_rfl) (fun _ _ _ h => h) (Or.inl ⟨by rfl, by intro w hSw; (try dsimp only at hSw); go_simp; (try with_reducible rfl); (try omega)⟩) (by assumption) ?_; simp only [List.getElem_toArray, List.getElem_cons_succ, List.getElem_cons_zero, Act.put, List.setIfInBounds_toArray, List.set_cons_succ, List.set_cons_zero])
    (refine wpAnyH_take (i := 5) (v := (.string (⟨#[114, 111, 119, 115]⟩ ++ ⟨(numT (a.rows.length : Int)).toArray⟩ ++ ⟨#[10]⟩))) rfl (by kernel_rfl) (by kernel_rfl) (by kernel_rfl) (fun _ _ _ h => h) (Or.inl ⟨by rfl, by intro w hSw; (try dsimp only at hSw); go_simp; (try with_reducible rfl); (try omega)⟩) (by assumption) ?_; simp only [List.getElem_toArray, List.getElem_cons_succ, List.getElem_cons_zero, Act.put, List.setIfInBounds_toArray, List.set_cons_succ, List.set_cons_zero])
    refine wpAnyH_ready (rs := [8]) (by kernel_rfl) (by simp) (AllReadyH.cons rfl (fun K' hK => ?_) AllReadyH.nil)
    go_simp
    refine (HJ.out _ (HNb.out.below hbw1)).mono ?_
    rintro e w2 ⟨rfl, hb2⟩
    have hbx2 : Below W0.heap.size W0 w2 := bthn hbx1 hb2
    have HB2 : Hid (IsB w2 W0.heap.size W0.heap.size []) := Lib.hid (HB1.out.below hb2)
    try go_simp
    refine hK.out _ _ ⟨(hbx2.cell (lt_of_cell A0.out)).trans A0.out, (hbx2.cell (lt_of_cell A1.out)).trans A1.out⟩ (fun _ => ?_)
    clear hK K'
    (refine wpAnyH_take (i := 9) (v := (.string (⟨#[114, 111, 119, 115]⟩ ++ ⟨(numT (a.rows.length : Int)).toArray⟩ ++ ⟨#[10]⟩ ++ ⟨(namesT a.names).toArray⟩))) rfl (by kernel_rfl) (by kernel_rfl) (by kernel_rfl) (fun _ _ _ h => h) (Or.inl ⟨by rfl, by intro w hSw; (try dsimp only at hSw); go_simp; (try with_reducible rfl); (try omega)⟩) (by assumption) ?_; simp only [List.getElem_toArray, List.getElem_cons_succ, List.getElem_cons_zero, Act.put, List.setIfInBounds_toArray, List.set_cons_succ, List.set_cons_zero])
    (refine wpAnyH_take (i := 10) (v := (.string (⟨#[114, 111, 119, 115]⟩ ++ ⟨(numT (a.rows.length : Int)).toArray⟩ ++ ⟨#[10]⟩ ++ ⟨(namesT a.names).toArray⟩ ++ ⟨#[10]⟩))) rfl (by kernel_rfl) (by kernel_rfl) (by kernel_rfl) (fun _ _ _ h => h) (Or.inl ⟨by rfl, by intro w hSw; (try dsimp only at hSw); go_simp; (try with_reducible rfl); (try omega)⟩) (by assumption) ?_; simp only [List.getElem_toArray, List.getElem_cons_succ, List.getElem_cons_zero, Act.put, List.setIfInBounds_toArray, List.set_cons_succ, List.set_cons_zero])
    refine wpAnyH_ready (rs := [11]) (by kernel_rfl) (by simp) (AllReadyH.cons rfl (fun K' hK => ?_) AllReadyH.nil)
    go_simp
    rw [HPb.out]
    refine (WriteString_any _ _ _ _ _ HB2.out (by simp [ByteArray.size]; omega) hbx2.size).mono ?_
    rintro e w3 ⟨rfl, hB3, hb3, hk3⟩
    have hbx3 : Below W0.heap.size W0 w3 := hbx2.trans hb3
    have HB3 : Hid (IsB w3 W0.heap.size W0.heap.size P) := Lib.hid (by rw [toList_arr, List.nil_append] at hB3; exact hB3)
    clear hk3
    try go_simp
    refine hK.out _ _ ⟨(hbx3.cell (lt_of_cell A0.out)).trans A0.out, (hbx3.cell (lt_of_cell A1.out)).trans A1.out⟩ (fun _ => ?_)
    clear hK K'
    refine wpAnyH_done (by kernel_rfl) ?_ _
    · clear hb1' hb2 hb3 hB3 B0 B1 b0 b1 a2 hbx1 hbx2 hbw1 HB1 HB2 HBb HLb HEb HNb HC HJ HPb hW0 hWb hLs
      have q1 := (hbx3.cell (lt_of_cell A1.out)).trans A1.out
      clear a0 a1
      go_wp2_with fail
      go_loopw [30] (fun i wr => ∃ k : Nat, k ≤ a.rows.length ∧ i = .int .i64 k ∧ Hid (IsB wr W0.heap.size W0.heap.size (P ++ rowsT (a.rows.take k))) ∧ Below W0.heap.size W0 wr) (fun i _ => a.rows.length - (intOf i).toNat)
      case atStart => exact ⟨0, by omega, rfl, Lib.hid (by simpa [rowsT] using HB3.out), hbx3⟩
      case round =>
        obtain ⟨k, hk, rfl, HBk, hb⟩ := hrel
        have HBr := Lib.hid hb
        have hs1 := Nat.le_trans (rowsT_take_le a.rows k) hrt
        have i0 : (0 : Int) ≤ (k : Int) := Int.natCast_nonneg _
        by_cases hlt : k < a.rows.length
        · obtain ⟨b, o, hra, pa, pc, c0, hpc, hvs⟩ := (HR.out.below hb).at_ hlt
          subst hra
          have i1 : (k : Int) < (a.rows.length : Int) := by omega
          obtain ⟨hin1, hin2⟩ := HF.out.rf a.rows[k] (List.getElem_mem hlt)
          have hin3 : a.rows[k].length ≤ 16777216 := Nat.le_trans hin2 (by decide)
          have hT := rowsT_take a.rows k hlt
          have hz : (litsT a.rows[k]).length ≤ 40000000 := by
            have h1 := Nat.le_trans (rowsT_take_le a.rows (k + 1)) hrt
            rw [hT] at h1
            simp only [List.length_append] at h1
            omega
          have HT := Lib.hid hT
          have HL := Lib.hid (litsOf_any pa (a.rows[k]'hlt).length pc (a.rows[k]'hlt) rfl hin3 hin1 _ (HE.out.below hb) hvs)
          have HS := Lib.hid (cat_str (litsT (a.rows[k]'hlt)) [10])
          generalize a.rows[k] = r at c0 HT HL HS hz hin1 hin2 hin3 hpc hvs hT
          clear hT hin1 hin2 hin3 hpc hvs
          go_wp2_with (first
            | (go_at_call 113; refine HL.out.mono ?_; rintro e w4 ⟨rfl, hb4⟩)
            | (go_at_call 26; rw [HS.out]; refine (WriteString_any _ _ _ _ _ (HBk.out.below hb4) (by simp [ByteArray.size]; omega) (bthn HBr.out hb4).size).mono ?_; rintro e w5 ⟨rfl, hB5, hb5, hk5⟩; have HB5 := Lib.hid hB5; clear hk5 hB5))
          go_roundw
          case rel =>
            refine ⟨k + 1, by omega, by go_num, Lib.hid ?_, (bthn HBr.out hb4).trans hb5⟩
            have h := HB5.out
            rw [List.append_assoc, ← HT.out] at h
            exact h
          case measure => simp [intOf]; omega
        · have hkn : k = a.rows.length := by omega
          subst hkn
          have i1 : ¬ (a.rows.length : Int) < (a.rows.length : Int) := by omega
          have HK : Hid (a.rows.take a.rows.length = a.rows) := Lib.hid List.take_length
          rw [HK.out] at HBk
          go_wp2_with (go_at_call 30; refine (BString_any _ _ _ _ HBk.out HBr.out.size).mono ?_; rintro e w6 ⟨rfl, hB6, hb6, hk6⟩)
          go_ret
          rw [HX.out]
          exact ⟨rfl, HB.out.trans ((HBr.out.trans hb6).mono HB.out.size)⟩
end Go.Proofs.YtkkildkleleppaaGreatDoor
