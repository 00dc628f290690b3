/- The literals of values: bureauref02.Print and value.Print. -/
import Derived.Test.YtkkildkleleppaaGreatDoorLib
import Derived.Test.YtkkildkleleppaaGreatDoorVal
namespace Go.Proofs.YtkkildkleleppaaGreatDoor
open Go.RowKit

theorem infoB : (Tryz.prog.info? 5).map (fun i => (i.zero, i.size, i.bytes)) = some (some (.int .u8 0), 1, 1) := by kernel_rfl

set_option maxHeartbeats 400000 in
theorem Digit_any (n : Int) (h0 : 0 ≤ n) (h1 : n < 16) (w : World) :
    Calls Tryz.prog 121 #[.int .u8 n] w fun e w' => e = .returned (.int .u8 ((hexd n.toNat).toNat : Int)) ∧ w = w' := by
  have hd : ((hexd n.toNat).toNat : Int) = if n < 10 then 48 + n else 87 + n := by
    unfold hexd
    rw [UInt8.toNat_ofNat']
    split <;> split <;> omega
  have HD := Lib.hid hd
  clear hd
  go_enter Tryz.func121, Tryz.ntmps121
  by_cases h : n < 10
  · go_wp2
    go_ret
    refine ⟨?_, rfl⟩
    rw [HD.out, if_pos h]; rfl
  · go_wp2
    go_ret
    refine ⟨ret_int ?_, rfl⟩
    rw [HD.out, if_neg (by omega)]; omega

theorem may2 (s : ByteArray) (hs : s.size ≤ 400) : (V.mk 2 0 s).may = true := by simp [V.may, mayB, hs]
theorem may3 (s : ByteArray) (hs : s.size ≤ 400) : (V.mk 3 0 s).may = true := by simp [V.may, mayB, hs]

set_option maxHeartbeats 1000000 in
theorem RPrint_text (s : ByteArray) (hs : s.size ≤ 400) (w : World) :
    Calls Tryz.prog 73 #[(V.mk 2 0 s).val] w (Ret w (.tuple #[.string ⟨(quoted s.data.toList).toArray⟩, .int .i64 0])) := by
  have HM := Lib.hid (may2 s hs)
  simp only [V.val]
  go_enter Tryz.func73, Tryz.ntmps73
  go_wp2_with (first
    | (go_at_call 119; refine (RMay_any ⟨2, 0, s⟩ _).mono ?_; rw [HM.out]; rintro e w1 ⟨rfl, hb1⟩; have c0 := bcell hb1)
    | (at_builtin; refine wpList_pushB w1 5 _ rfl (.tmp 25) (.tmp 26) _ rfl (w.heap.size + 1) Tryz.underlying67 infoB (.slice none 0 0) [] rfl (OwnB.nil_ _ _ _) [39] rfl 1 1 rfl rfl (by simp) (by have := hb1.size; simpa using this) ?_; intro v1 w2 hown1 hg1))
  have hbw : Below (w.heap.size + 1) (w.alloc (.cells #[.int .i64 2, .int .i64 0, .string s] 80)) w2 :=
    OwnB.next (OwnB.nil_ 5 _ _) (hb1.mono (by simp)) hg1 (by have := hb1.size; simpa using this)
  clear hg1 c0 hb1
  go_loopw [4, 5] (fun out i wr => ∃ k : Nat, k ≤ s.size ∧ i = .int .i64 k ∧ OwnB 5 wr (w.heap.size + 1) out (39 :: dbl (s.data.toList.take k)) ∧
      Below (w.heap.size + 1) (w.alloc (.cells #[.int .i64 2, .int .i64 0, .string s] 80)) wr) (fun _ i _ => s.size - (intOf i).toNat)
  case atStart => exact ⟨0, Nat.zero_le _, rfl, hown1, hbw⟩
  case round =>
    obtain ⟨k, hk, rfl, hown, hb⟩ := hrel
    have q0 : wr.cell? ⟨w.heap.size, 0, none⟩ = some (.int .i64 2) := box_cell hb 0
    have q2 : wr.cell? ⟨w.heap.size, 2, none⟩ = some (.string s) := box_cell hb 2
    have hBw : w.heap.size + 1 ≤ wr.heap.size := by have := hb.size; simpa using this
    have hlen := dbl_len (s.data.toList.take k)
    have hlk := take_len s k
    by_cases hlt : k < s.size
    · have ht := dbl_take s k hlt
      by_cases hq : s[k] = 39
      · have hq2 : ((s[k].toNat : Int) == 39) = true := by rw [hq]; rfl
        have HT := Lib.hid ht
        have HQ := Lib.hid hq
        clear ht hq
        go_wp2_with (first
          | (at_builtin; refine wpList_pushB wr 5 _ rfl (.tmp 51) (.tmp 53) _ rfl (w.heap.size + 1) Tryz.underlying67 infoB _ _ rfl hown [s[k]] rfl 1 1 rfl rfl (by simp; omega) hBw ?_; intro v3 w3 hown3 hg3)
          | (at_builtin; refine wpList_pushB w3 5 _ rfl (.tmp 57) (.tmp 58) _ rfl (w.heap.size + 1) Tryz.underlying67 infoB _ _ rfl hown3 [39] rfl 1 1 rfl rfl (by simp; omega) (Nat.le_trans hBw hg3.size) ?_; intro v4 w4 hown4 hg4))
        go_roundw
        case rel =>
          refine ⟨k + 1, by omega, by go_num, ?_, OwnB.next hown3 (OwnB.next hown hb hg3 hBw) hg4 (Nat.le_trans hBw hg3.size)⟩
          have e : 39 :: dbl (s.data.toList.take (k + 1)) = 39 :: dbl (s.data.toList.take k) ++ [s[k]] ++ [39] := by
            rw [HT.out, HQ.out]; simp [dblOne]
          rw [e]
          exact hown4
        case measure => simp [intOf]; omega
      · have hq2 : ((s[k].toNat : Int) == 39) = false := by
          rw [beq_eq_false_iff_ne]
          intro h
          exact hq (UInt8.toNat_inj.1 (by have : (39 : UInt8).toNat = 39 := rfl; omega))
        have HT := Lib.hid ht
        have HQ := Lib.hid hq
        clear ht hq
        go_wp2_with (first
          | (at_builtin; refine wpList_pushB wr 5 _ rfl (.tmp 51) (.tmp 53) _ rfl (w.heap.size + 1) Tryz.underlying67 infoB _ _ rfl hown [s[k]] rfl 1 1 rfl rfl (by simp; omega) hBw ?_; intro v3 w3 hown3 hg3))
        go_roundw
        case rel =>
          refine ⟨k + 1, by omega, by go_num, ?_, OwnB.next hown hb hg3 hBw⟩
          have e : 39 :: dbl (s.data.toList.take (k + 1)) = 39 :: dbl (s.data.toList.take k) ++ [s[k]] := by
            rw [HT.out]; simp [dblOne, HQ.out]
          rw [e]
          exact hown3
        case measure => simp [intOf]; omega
    · have hkn : k = s.size := by omega
      have hall : s.data.toList.take k = s.data.toList := by rw [hkn]; exact take_all s
      rw [hall] at hown
      have HK := Lib.hid hkn
      clear hkn hall
      go_wp2_with (first
        | (at_builtin; refine wpList_pushB wr 5 _ rfl (.tmp 60) (.tmp 61) _ rfl (w.heap.size + 1) Tryz.underlying67 infoB _ _ rfl hown [39] rfl 1 1 rfl rfl (by have := dbl_len s.data.toList; rw [size_len] at this; simp; omega) hBw ?_; intro v3 w3 hown3 hg3; have hcv := run_convert_own (P := Tryz.prog) w3 _ 5 9 Tryz.underlying67 Tryz.underlying5 Tryz.underlying9 _ _ _ hown3))
      go_ret2
      exact ⟨rfl, box_below (OwnB.next hown hb hg3 hBw)⟩

set_option maxHeartbeats 1000000 in
theorem RPrint_blob (s : ByteArray) (hs : s.size ≤ 400) (w : World) :
    Calls Tryz.prog 73 #[(V.mk 3 0 s).val] w (Ret w (.tuple #[.string ⟨(blobbed s.data.toList).toArray⟩, .int .i64 0])) := by
  have HM := Lib.hid (may3 s hs)
  simp only [V.val]
  go_enter Tryz.func73, Tryz.ntmps73
  go_wp2_with (first
    | (go_at_call 119; refine (RMay_any ⟨3, 0, s⟩ _).mono ?_; rw [HM.out]; rintro e w1 ⟨rfl, hb1⟩; have c0 := bcell hb1)
    | (at_builtin; refine wpList_pushB w1 5 _ rfl (.tmp 22) (.tmp 23) _ rfl (w.heap.size + 1) Tryz.underlying67 infoB (.slice none 0 0) [] rfl (OwnB.nil_ _ _ _) [120] rfl 1 1 rfl rfl (by simp) (by have := hb1.size; simpa using this) ?_; intro v1 w2 hown1 hg1; have hbw : Below (w.heap.size + 1) (w.alloc (.cells #[.int .i64 3, .int .i64 0, .string s] 80)) w2 := OwnB.next (OwnB.nil_ 5 _ _) (hb1.mono (by simp)) hg1 (by have := hb1.size; simpa using this); have hBw2 : w.heap.size + 1 ≤ w2.heap.size := by have := hbw.size; simpa using this)
    | (at_builtin; refine wpList_pushB w2 5 _ rfl (.tmp 25) (.tmp 26) _ rfl (w.heap.size + 1) Tryz.underlying67 infoB v1 _ rfl hown1 [39] rfl 1 1 rfl rfl (by simp) hBw2 ?_; intro v2 w3 hown2 hg2; have hbw3 := OwnB.next hown1 hbw hg2 hBw2))
  clear hg1 c0 hb1 hbw hg2 hBw2 hown1
  go_loopw [4, 5] (fun out i wr => ∃ k : Nat, k ≤ s.size ∧ i = .int .i64 k ∧ OwnB 5 wr (w.heap.size + 1) out (120 :: 39 :: hexs (s.data.toList.take k)) ∧
      Below (w.heap.size + 1) (w.alloc (.cells #[.int .i64 3, .int .i64 0, .string s] 80)) wr) (fun _ i _ => s.size - (intOf i).toNat)
  case atStart => exact ⟨0, Nat.zero_le _, rfl, hown2, hbw3⟩
  case round =>
    obtain ⟨k, hk, rfl, hown, hb⟩ := hrel
    have q0 : wr.cell? ⟨w.heap.size, 0, none⟩ = some (.int .i64 3) := box_cell hb 0
    have q2 : wr.cell? ⟨w.heap.size, 2, none⟩ = some (.string s) := box_cell hb 2
    have hBw : w.heap.size + 1 ≤ wr.heap.size := by have := hb.size; simpa using this
    have hlen := hexs_len (s.data.toList.take k)
    have hlk := take_len s k
    have HL := Lib.hid hlen
    clear hlen
    by_cases hlt : k < s.size
    · have HT := Lib.hid (hexs_take s k hlt)
      have hc := UInt8.toNat_lt s[k]
      go_wp2_with (first
        | (go_at_call 121; refine (Digit_any _ (by omega) (by omega) _).mono ?_; rintro e w4 ⟨rfl, rfl⟩)
        | (at_builtin; refine wpList_pushB wr 5 _ rfl (.tmp 42) (.tmp 49) _ rfl (w.heap.size + 1) Tryz.underlying67 infoB _ _ rfl hown (hexOne s[k]) rfl 2 2 rfl rfl (by have := HL.out; simp; omega) hBw ?_; intro v3 w3 hown3 hg3))
      go_roundw
      case rel =>
        refine ⟨k + 1, by omega, by go_num, ?_, OwnB.next hown hb hg3 hBw⟩
        have e : 120 :: 39 :: hexs (s.data.toList.take (k + 1)) = 120 :: 39 :: hexs (s.data.toList.take k) ++ hexOne s[k] := by
          rw [HT.out]; simp
        rw [e]
        exact hown3
      case measure => simp [intOf]; omega
    · have hkn : k = s.size := by omega
      have hall : s.data.toList.take k = s.data.toList := by rw [hkn]; exact take_all s
      rw [hall] at hown
      have HK := Lib.hid hkn
      clear hkn hall
      go_wp2_with (first
        | (at_builtin; refine wpList_pushB wr 5 _ rfl (.tmp 60) (.tmp 61) _ rfl (w.heap.size + 1) Tryz.underlying67 infoB _ _ rfl hown [39] rfl 1 1 rfl rfl (by have := hexs_len s.data.toList; rw [size_len] at this; simp; omega) hBw ?_; intro v3 w3 hown3 hg3; have hcv := run_convert_own (P := Tryz.prog) w3 _ 5 9 Tryz.underlying67 Tryz.underlying5 Tryz.underlying9 _ _ _ hown3))
      go_ret2
      exact ⟨rfl, box_below (OwnB.next hown hb hg3 hBw)⟩
end Go.Proofs.YtkkildkleleppaaGreatDoor
