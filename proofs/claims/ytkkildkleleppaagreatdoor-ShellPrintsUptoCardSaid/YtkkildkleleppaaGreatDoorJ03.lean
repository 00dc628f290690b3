/- What a value may be: value.May, the reference's May, and rows of them. The literals of values: bureauref02.Print and value.Print. -/
import Derived.Test.YtkkildkleleppaaGreatDoorProg
import Derived.Test.YtkkildkleleppaaGreatDoorJ02
namespace Go.Proofs.YtkkildkleleppaaGreatDoor
open Go.RowKit

set_option maxHeartbeats 400000 in
theorem May_any (v : V) (w : World) : Calls Tryz.prog 66 #[v.val] w (Ret w (.bool v.may)) := by
  obtain ⟨k, n, s⟩ := v
  simp only [V.val, V.may]
  go_enter Tryz.func66, Tryz.ntmps66
  go_wp2
  all_goals go_ret
  all_goals refine ⟨?_, (Below.refl _ _).alloc (Nat.le_refl _) _⟩
  all_goals simp_all [mayB, toList_data]
  all_goals omega

set_option maxHeartbeats 400000 in
theorem RMay_any (v : V) (w : World) : Calls Tryz.prog 119 #[v.val] w (Ret w (.bool v.may)) := by
  obtain ⟨k, n, s⟩ := v
  simp only [V.val, V.may]
  go_enter Tryz.func119, Tryz.ntmps119
  go_wp2
  all_goals go_ret
  all_goals refine ⟨?_, (Below.refl _ _).alloc (Nat.le_refl _) _⟩
  all_goals simp_all [mayB, toList_data]
  all_goals omega

set_option maxHeartbeats 400000 in
theorem RCheck_any (a : Option Addr) (n c : Nat) (vs : List V) (hn : n = vs.length) (hl : n ≤ 16777216) (w : World) (h : IsVs w a vs) :
    Calls Tryz.prog 71 #[.slice a n c] w (Ret w (.int .i64 (checkV vs))) := by
  have HN := Lib.hid hn
  clear hn
  go_enter Tryz.func71, Tryz.ntmps71
  go_wp2
  go_loopw [3] (fun i wr => ∃ k : Nat, k ≤ n ∧ i = .int .i64 k ∧ Below w.heap.size w wr ∧ (vs.take k).all V.may = true) (fun i _ => n - (intOf i).toNat)
  case atStart => exact ⟨0, Nat.zero_le _, rfl, Below.refl _ _, by simp⟩
  case round =>
    obtain ⟨k, hk, rfl, hb, hall⟩ := hrel
    have HA := Lib.hid hall
    clear hall
    by_cases hlt : k < n
    · have hkv : k < vs.length := by have := HN.out; omega
      obtain ⟨b, o, rfl, c0, c1, c2⟩ := (h.below hb).at_ hkv
      generalize hv : vs[k] = v at c0 c1 c2
      have HV := Lib.hid hv
      clear hv
      cases hm : v.may with
      | true =>
        have HM := Lib.hid hm
        clear hm
        go_wp2_with (go_at_call 119; refine (RMay_any v _).mono ?_; rw [HM.out]; rintro e w1 ⟨rfl, hb1⟩)
        go_roundw
        case rel =>
          refine ⟨k + 1, by omega, by go_num, hb.trans (hb1.mono hb.size), ?_⟩
          rw [List.take_succ_eq_append_getElem hkv, List.all_append, HA.out, HV.out]
          simp [HM.out]
        case measure => simp [intOf]; omega
      | false =>
        have HM := Lib.hid hm
        clear hm
        go_wp2_with (go_at_call 119; refine (RMay_any v _).mono ?_; rw [HM.out]; rintro e w1 ⟨rfl, hb1⟩)
        go_ret
        refine ⟨?_, hb.trans (hb1.mono hb.size)⟩
        rw [checkV_bad vs k hkv (by rw [HV.out]; exact HM.out)]; rfl
    · have hkn : k = n := by omega
      subst hkn
      have hall2 : badV vs = false := by
        have h1 := HA.out
        rw [HN.out, List.take_length] at h1
        exact badV_no h1
      have HB := Lib.hid hall2
      clear hall2
      go_wp2
      all_goals go_ret
      all_goals refine ⟨?_, hb⟩
      · rw [checkV_long vs HB.out (by rw [← HN.out]; omega)]; rfl
      · rw [checkV_ok vs HB.out (by rw [← HN.out]; omega)]; rfl

theorem May1_any (v : V) (w : World) : Calls Tryz.prog 65 #[v.val] w (Ret w (.bool (!v.may))) := by
  obtain ⟨k, n, s⟩ := v
  simp only [V.val]
  go_enter Tryz.func65, Tryz.ntmps65
  go_wp2_with (go_at_call 66; refine (May_any ⟨k, n, s⟩ _).mono ?_; rintro e w1 ⟨rfl, hb1⟩)
  go_ret
  exact ⟨rfl, box_below2 hb1⟩

/-- The place of the first value that may not be, or a number below 0. -/
def IdxEnd (vs : List V) (w : World) (e : Ending) (w' : World) : Prop := ∃ r : Int, e = .returned (.int .i64 r) ∧ (0 ≤ r ↔ badV vs = true) ∧ Below w.heap.size w w'

set_option maxHeartbeats 400000 in
theorem IndexFunc_any (a : Option Addr) (n c : Nat) (vs : List V) (hn : n = vs.length) (hl : n ≤ 16777216) (w : World) (h : IsVs w a vs) :
    Calls Tryz.prog 114 #[.slice a n c, .func (.func 65) #[] #[]] w (IdxEnd vs w) := by
  have HN := Lib.hid hn
  clear hn
  go_enter Tryz.func114, Tryz.ntmps114
  go_wp2
  go_loopw [5, 8] (fun _ i wr => ∃ k : Nat, k ≤ n ∧ i = .int .i64 k ∧ Below w.heap.size w wr ∧ (vs.take k).all V.may = true) (fun _ i _ => n - (intOf i).toNat)
  case atStart => exact ⟨0, Nat.zero_le _, rfl, Below.refl _ _, by simp⟩
  case round =>
    obtain ⟨k, hk, rfl, hb, hall⟩ := hrel
    have HA := Lib.hid hall
    clear hall
    by_cases hlt : k < n
    · have hkv : k < vs.length := by have := HN.out; omega
      obtain ⟨b, o, rfl, c0, c1, c2⟩ := (h.below hb).at_ hkv
      generalize hv : vs[k] = v at c0 c1 c2
      have HV := Lib.hid hv
      clear hv
      cases hm : v.may with
      | true =>
        have HM := Lib.hid hm
        clear hm
        go_wp2_with (go_at_call 65; refine (May1_any v _).mono ?_; rw [HM.out]; rintro e w1 ⟨rfl, hb1⟩)
        go_roundw
        case rel =>
          refine ⟨k + 1, by omega, by go_num, hb.trans (hb1.mono hb.size), ?_⟩
          rw [List.take_succ_eq_append_getElem hkv, List.all_append, HA.out, HV.out]
          simp [HM.out]
        case measure => simp [intOf]; omega
      | false =>
        have HM := Lib.hid hm
        clear hm
        go_wp2_with (go_at_call 65; refine (May1_any v _).mono ?_; rw [HM.out]; rintro e w1 ⟨rfl, hb1⟩)
        go_ret
        exact ⟨k, rfl, ⟨fun _ => badV_of hkv (by rw [HV.out]; exact HM.out), fun _ => by omega⟩, hb.trans (hb1.mono hb.size)⟩
    · have hkn : k = n := by omega
      subst hkn
      have hall2 : badV vs = false := by
        have h1 := HA.out
        rw [HN.out, List.take_length] at h1
        exact badV_no h1
      have HB := Lib.hid hall2
      clear hall2
      go_wp2
      go_ret
      exact ⟨-1, rfl, ⟨fun h => by omega, fun h => by rw [HB.out] at h; cases h⟩, hb⟩

theorem ContainsFunc_any (a : Option Addr) (n c : Nat) (vs : List V) (hn : n = vs.length) (hl : n ≤ 16777216) (w : World) (h : IsVs w a vs) :
    Calls Tryz.prog 64 #[.slice a n c, .func (.func 65) #[] #[]] w (Ret w (.bool (badV vs))) := by
  have H := Lib.hid (IndexFunc_any a n c vs hn hl w h)
  clear h hn
  go_enter Tryz.func64, Tryz.ntmps64
  go_wp2_with (go_at_call 114; refine H.out.mono ?_; rintro e w1 ⟨r, rfl, hr, hb1⟩; have HR := Lib.hid hr; clear hr)
  go_ret
  refine ⟨?_, hb1⟩
  have : decide (0 ≤ r) = badV vs := by
    rw [Bool.eq_iff_iff, decide_eq_true_eq]; exact HR.out
  rw [← this]; rfl

/-- A told thing as a value. -/
def toldV (sql : ByteArray) (a : Option Addr) (n c : Nat) : Value := .agg #[.string sql, .slice a n c]

set_option maxHeartbeats 400000 in
theorem dmay_any (sql : ByteArray) (a : Option Addr) (n c : Nat) (ps : List V) (hn : n = ps.length) (w : World) (h : IsVs w a ps) :
    Calls Tryz.prog 25 #[toldV sql a n c] w (Ret w (.bool (T.may ⟨sql, ps⟩))) := by
  simp only [toldV]
  by_cases h1 : sql.size ≤ 2000
  · by_cases h2 : n ≤ 16
    · have H := Lib.hid (fun W hb => ContainsFunc_any a n c ps hn (by omega) W (h.below hb))
      have HF : Hid (T.may ⟨sql, ps⟩ = !badV ps) := by
        apply Lib.hid
        simp [T.may, h1, ← hn, h2]
      clear h hn
      go_enter Tryz.func25, Tryz.ntmps25
      go_wp2_with (go_at_call 64; refine (H.out _ ((Below.refl _ _).alloc (Nat.le_refl _) _)).mono ?_; rintro e w1 ⟨rfl, hb1⟩)
      go_ret
      refine ⟨?_, box_below2 hb1⟩
      rw [HF.out]; rfl
    · have HF : Hid (T.may ⟨sql, ps⟩ = false) := by
        apply Lib.hid
        simp [T.may, ← hn, h2]
      clear h hn
      go_enter Tryz.func25, Tryz.ntmps25
      go_wp2_with fail
      go_ret
      refine ⟨?_, (Below.refl _ _).alloc (Nat.le_refl _) _⟩
      rw [HF.out]; rfl
  · have HF : Hid (T.may ⟨sql, ps⟩ = false) := by
      apply Lib.hid
      simp [T.may, h1]
    clear h hn
    go_enter Tryz.func25, Tryz.ntmps25
    go_wp2_with fail
    go_ret
    refine ⟨?_, (Below.refl _ _).alloc (Nat.le_refl _) _⟩
    rw [HF.out]; rfl

set_option maxHeartbeats 400000 in
theorem rmay_any (sql : ByteArray) (a : Option Addr) (n c : Nat) (ps : List V) (hn : n = ps.length) (w : World) (h : IsVs w a ps) :
    Calls Tryz.prog 32 #[toldV sql a n c] w (Ret w (.bool (T.may ⟨sql, ps⟩))) := by
  simp only [toldV]
  by_cases h1 : sql.size ≤ 2000
  · by_cases h2 : n ≤ 16
    · have H := Lib.hid (fun W hb => RCheck_any a n c ps hn (by omega) W (h.below hb))
      have HF : Hid (T.may ⟨sql, ps⟩ = (checkV ps != 2)) := by
        apply Lib.hid
        simp only [T.may, h1, ← hn, h2, checkV]
        have h3 : ¬ 16 < n := by omega
        cases badV ps <;> simp [h3]
      clear h hn
      go_enter Tryz.func32, Tryz.ntmps32
      go_wp2_with (go_at_call 71; refine (H.out _ ((Below.refl _ _).alloc (Nat.le_refl _) _)).mono ?_; rintro e w1 ⟨rfl, hb1⟩)
      go_ret
      refine ⟨?_, box_below2 hb1⟩
      rw [HF.out]; rfl
    · have HF : Hid (T.may ⟨sql, ps⟩ = false) := by
        apply Lib.hid
        simp [T.may, ← hn, h2]
      clear h hn
      go_enter Tryz.func32, Tryz.ntmps32
      go_wp2_with fail
      go_ret
      refine ⟨?_, (Below.refl _ _).alloc (Nat.le_refl _) _⟩
      rw [HF.out]; rfl
  · have HF : Hid (T.may ⟨sql, ps⟩ = false) := by
      apply Lib.hid
      simp [T.may, h1]
    clear h hn
    go_enter Tryz.func32, Tryz.ntmps32
    go_wp2_with fail
    go_ret
    refine ⟨?_, (Below.refl _ _).alloc (Nat.le_refl _) _⟩
    rw [HF.out]; rfl
end Go.Proofs.YtkkildkleleppaaGreatDoor
namespace Go.Proofs.YtkkildkleleppaaGreatDoor
open Go.RowKit

theorem infoB : (Tryz.prog.info? 5).map (fun i => (i.zero, i.size, i.bytes)) = some (some (.int .u8 0), 1, 1) := by kernel_rfl

set_option maxHeartbeats 400000 in
theorem Digit_any (n : Int) (h0 : 0 ≤ n) (h1 : n < 16) (w : World) :
    Calls Tryz.prog 121 #[.int .u8 n] w fun e w' => e = .returned (.int .u8 ((hexd n.toNat).toNat : Int)) ∧ w = w' := by
  have hd : ((hexd n.toNat).toNat : Int) = if n < 10 then 48 + n else 87 + n := by
    unfold hexd
    rw [UInt8.toNat_ofNat']
    split <;> split <;> omega
  have HD := Lib.hid hd
  clear hd
  go_enter Tryz.func121, Tryz.ntmps121
  by_cases h : n < 10
  · go_wp2
    go_ret
    refine ⟨?_, rfl⟩
    rw [HD.out, if_pos h]; rfl
  · go_wp2
    go_ret
    refine ⟨ret_int ?_, rfl⟩
    rw [HD.out, if_neg (by omega)]; omega

theorem may2 (s : ByteArray) (hs : s.size ≤ 400) : (V.mk 2 0 s).may = true := by simp [V.may, mayB, hs]
theorem may3 (s : ByteArray) (hs : s.size ≤ 400) : (V.mk 3 0 s).may = true := by simp [V.may, mayB, hs]

set_option maxHeartbeats 1000000 in
theorem RPrint_text (s : ByteArray) (hs : s.size ≤ 400) (w : World) :
    Calls Tryz.prog 73 #[(V.mk 2 0 s).val] w (Ret w (.tuple #[.string ⟨(quoted s.data.toList).toArray⟩, .int .i64 0])) := by
  have HM := Lib.hid (may2 s hs)
  simp only [V.val]
  go_enter Tryz.func73, Tryz.ntmps73
  go_wp2_with (first
    | (go_at_call 119; refine (RMay_any ⟨2, 0, s⟩ _).mono ?_; rw [HM.out]; rintro e w1 ⟨rfl, hb1⟩; have c0 := bcell hb1)
    | (at_builtin; refine wpList_pushB w1 5 _ rfl (.tmp 25) (.tmp 26) _ rfl (w.heap.size + 1) Tryz.underlying67 infoB (.slice none 0 0) [] rfl (OwnB.nil_ _ _ _) [39] rfl 1 1 rfl rfl (by simp) (by have := hb1.size; simpa using this) ?_; intro v1 w2 hown1 hg1))
  have hbw : Below (w.heap.size + 1) (w.alloc (.cells #[.int .i64 2, .int .i64 0, .string s] 80)) w2 :=
    OwnB.next (OwnB.nil_ 5 _ _) (hb1.mono (by simp)) hg1 (by have := hb1.size; simpa using this)
  clear hg1 c0 hb1
  go_loopw [4, 5] (fun out i wr => ∃ k : Nat, k ≤ s.size ∧ i = .int .i64 k ∧ OwnB 5 wr (w.heap.size + 1) out (39 :: dbl (s.data.toList.take k)) ∧
      Below (w.heap.size + 1) (w.alloc (.cells #[.int .i64 2, .int .i64 0, .string s] 80)) wr) (fun _ i _ => s.size - (intOf i).toNat)
  case atStart => exact ⟨0, Nat.zero_le _, rfl, hown1, hbw⟩
  case round =>
    obtain ⟨k, hk, rfl, hown, hb⟩ := hrel
    have q0 : wr.cell? ⟨w.heap.size, 0, none⟩ = some (.int .i64 2) := box_cell hb 0
    have q2 : wr.cell? ⟨w.heap.size, 2, none⟩ = some (.string s) := box_cell hb 2
    have hBw : w.heap.size + 1 ≤ wr.heap.size := by have := hb.size; simpa using this
    have hlen := dbl_len (s.data.toList.take k)
    have hlk := take_len s k
    by_cases hlt : k < s.size
    · have ht := dbl_take s k hlt
      by_cases hq : s[k] = 39
      · have hq2 : ((s[k].toNat : Int) == 39) = true := by rw [hq]; rfl
        have HT := Lib.hid ht
        have HQ := Lib.hid hq
        clear ht hq
        go_wp2_with (first
          | (at_builtin; refine wpList_pushB wr 5 _ rfl (.tmp 51) (.tmp 53) _ rfl (w.heap.size + 1) Tryz.underlying67 infoB _ _ rfl hown [s[k]] rfl 1 1 rfl rfl (by simp; omega) hBw ?_; intro v3 w3 hown3 hg3)
          | (at_builtin; refine wpList_pushB w3 5 _ rfl (.tmp 57) (.tmp 58) _ rfl (w.heap.size + 1) Tryz.underlying67 infoB _ _ rfl hown3 [39] rfl 1 1 rfl rfl (by simp; omega) (Nat.le_trans hBw hg3.size) ?_; intro v4 w4 hown4 hg4))
        go_roundw
        case rel =>
          refine ⟨k + 1, by omega, by go_num, ?_, OwnB.next hown3 (OwnB.next hown hb hg3 hBw) hg4 (Nat.le_trans hBw hg3.size)⟩
          have e : 39 :: dbl (s.data.toList.take (k + 1)) = 39 :: dbl (s.data.toList.take k) ++ [s[k]] ++ [39] := by
            rw [HT.out, HQ.out]; simp [dblOne]
          rw [e]
          exact hown4
        case measure => simp [intOf]; omega
      · have hq2 : ((s[k].toNat : Int) == 39) = false := by
          rw [beq_eq_false_iff_ne]
          intro h
          exact hq (UInt8.toNat_inj.1 (by have : (39 : UInt8).toNat = 39 := rfl; omega))
        have HT := Lib.hid ht
        have HQ := Lib.hid hq
        clear ht hq
        go_wp2_with (first
          | (at_builtin; refine wpList_pushB wr 5 _ rfl (.tmp 51) (.tmp 53) _ rfl (w.heap.size + 1) Tryz.underlying67 infoB _ _ rfl hown [s[k]] rfl 1 1 rfl rfl (by simp; omega) hBw ?_; intro v3 w3 hown3 hg3))
        go_roundw
        case rel =>
          refine ⟨k + 1, by omega, by go_num, ?_, OwnB.next hown hb hg3 hBw⟩
          have e : 39 :: dbl (s.data.toList.take (k + 1)) = 39 :: dbl (s.data.toList.take k) ++ [s[k]] := by
            rw [HT.out]; simp [dblOne, HQ.out]
          rw [e]
          exact hown3
        case measure => simp [intOf]; omega
    · have hkn : k = s.size := by omega
      have hall : s.data.toList.take k = s.data.toList := by rw [hkn]; exact take_all s
      rw [hall] at hown
      have HK := Lib.hid hkn
      clear hkn hall
      go_wp2_with (first
        | (at_builtin; refine wpList_pushB wr 5 _ rfl (.tmp 60) (.tmp 61) _ rfl (w.heap.size + 1) Tryz.underlying67 infoB _ _ rfl hown [39] rfl 1 1 rfl rfl (by have := dbl_len s.data.toList; rw [size_len] at this; simp; omega) hBw ?_; intro v3 w3 hown3 hg3; have hcv := run_convert_own (P := Tryz.prog) w3 _ 5 9 Tryz.underlying67 Tryz.underlying5 Tryz.underlying9 _ _ _ hown3))
      go_ret2
      exact ⟨rfl, box_below (OwnB.next hown hb hg3 hBw)⟩

set_option maxHeartbeats 1000000 in
theorem RPrint_blob (s : ByteArray) (hs : s.size ≤ 400) (w : World) :
    Calls Tryz.prog 73 #[(V.mk 3 0 s).val] w (Ret w (.tuple #[.string ⟨(blobbed s.data.toList).toArray⟩, .int .i64 0])) := by
  have HM := Lib.hid (may3 s hs)
  simp only [V.val]
  go_enter Tryz.func73, Tryz.ntmps73
  go_wp2_with (first
    | (go_at_call 119; refine (RMay_any ⟨3, 0, s⟩ _).mono ?_; rw [HM.out]; rintro e w1 ⟨rfl, hb1⟩; have c0 := bcell hb1)
    | (at_builtin; refine wpList_pushB w1 5 _ rfl (.tmp 22) (.tmp 23) _ rfl (w.heap.size + 1) Tryz.underlying67 infoB (.slice none 0 0) [] rfl (OwnB.nil_ _ _ _) [120] rfl 1 1 rfl rfl (by simp) (by have := hb1.size; simpa using this) ?_; intro v1 w2 hown1 hg1; have hbw : Below (w.heap.size + 1) (w.alloc (.cells #[.int .i64 3, .int .i64 0, .string s] 80)) w2 := OwnB.next (OwnB.nil_ 5 _ _) (hb1.mono (by simp)) hg1 (by have := hb1.size; simpa using this); have hBw2 : w.heap.size + 1 ≤ w2.heap.size := by have := hbw.size; simpa using this)
    | (at_builtin; refine wpList_pushB w2 5 _ rfl (.tmp 25) (.tmp 26) _ rfl (w.heap.size + 1) Tryz.underlying67 infoB v1 _ rfl hown1 [39] rfl 1 1 rfl rfl (by simp) hBw2 ?_; intro v2 w3 hown2 hg2; have hbw3 := OwnB.next hown1 hbw hg2 hBw2))
  clear hg1 c0 hb1 hbw hg2 hBw2 hown1
  go_loopw [4, 5] (fun out i wr => ∃ k : Nat, k ≤ s.size ∧ i = .int .i64 k ∧ OwnB 5 wr (w.heap.size + 1) out (120 :: 39 :: hexs (s.data.toList.take k)) ∧
      Below (w.heap.size + 1) (w.alloc (.cells #[.int .i64 3, .int .i64 0, .string s] 80)) wr) (fun _ i _ => s.size - (intOf i).toNat)
  case atStart => exact ⟨0, Nat.zero_le _, rfl, hown2, hbw3⟩
  case round =>
    obtain ⟨k, hk, rfl, hown, hb⟩ := hrel
    have q0 : wr.cell? ⟨w.heap.size, 0, none⟩ = some (.int .i64 3) := box_cell hb 0
    have q2 : wr.cell? ⟨w.heap.size, 2, none⟩ = some (.string s) := box_cell hb 2
    have hBw : w.heap.size + 1 ≤ wr.heap.size := by have := hb.size; simpa using this
    have hlen := hexs_len (s.data.toList.take k)
    have hlk := take_len s k
    have HL := Lib.hid hlen
    clear hlen
    by_cases hlt : k < s.size
    · have HT := Lib.hid (hexs_take s k hlt)
      have hc := UInt8.toNat_lt s[k]
      go_wp2_with (first
        | (go_at_call 121; refine (Digit_any _ (by omega) (by omega) _).mono ?_; rintro e w4 ⟨rfl, rfl⟩)
        | (at_builtin; refine wpList_pushB wr 5 _ rfl (.tmp 42) (.tmp 49) _ rfl (w.heap.size + 1) Tryz.underlying67 infoB _ _ rfl hown (hexOne s[k]) rfl 2 2 rfl rfl (by have := HL.out; simp; omega) hBw ?_; intro v3 w3 hown3 hg3))
      go_roundw
      case rel =>
        refine ⟨k + 1, by omega, by go_num, ?_, OwnB.next hown hb hg3 hBw⟩
        have e : 120 :: 39 :: hexs (s.data.toList.take (k + 1)) = 120 :: 39 :: hexs (s.data.toList.take k) ++ hexOne s[k] := by
          rw [HT.out]; simp
        rw [e]
        exact hown3
      case measure => simp [intOf]; omega
    · have hkn : k = s.size := by omega
      have hall : s.data.toList.take k = s.data.toList := by rw [hkn]; exact take_all s
      rw [hall] at hown
      have HK := Lib.hid hkn
      clear hkn hall
      go_wp2_with (first
        | (at_builtin; refine wpList_pushB wr 5 _ rfl (.tmp 60) (.tmp 61) _ rfl (w.heap.size + 1) Tryz.underlying67 infoB _ _ rfl hown [39] rfl 1 1 rfl rfl (by have := hexs_len s.data.toList; rw [size_len] at this; simp; omega) hBw ?_; intro v3 w3 hown3 hg3; have hcv := run_convert_own (P := Tryz.prog) w3 _ 5 9 Tryz.underlying67 Tryz.underlying5 Tryz.underlying9 _ _ _ hown3))
      go_ret2
      exact ⟨rfl, box_below (OwnB.next hown hb hg3 hBw)⟩
end Go.Proofs.YtkkildkleleppaaGreatDoor
