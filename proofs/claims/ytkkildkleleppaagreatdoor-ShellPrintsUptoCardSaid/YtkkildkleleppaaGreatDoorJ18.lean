/- The document's reader, walked: Nibble, Number, Ends, Cuts, Bytes. The document's reader, walked: Ends, Cuts. -/
import Derived.Test.YtkkildkleleppaaGreatDoorJ08
import Derived.Test.YtkkildkleleppaaGreatDoorJ14
import Derived.Test.YtkkildkleleppaaGreatDoorJ03
import Derived.Deep.RegionHeld3
namespace Go.Proofs.YtkkildkleleppaaGreatDoor
open Go.RowKit

theorem Nibble_any (c : UInt8) (w : World) : Calls Tryz.prog 123 #[.int .u8 (c.toNat : Int)] w fun e w' => e = .returned (.int .i64 (nib c)) ∧ w = w' := by
  have h0 : (0 : Int) ≤ (c.toNat : Int) := Int.natCast_nonneg _
  have h1 : (c.toNat : Int) ≤ 255 := by have := c.toNat_lt; omega
  have HN : Hid (nib c = if 48 ≤ (c.toNat : Int) ∧ (c.toNat : Int) ≤ 57 then (c.toNat : Int) - 48 else if 97 ≤ (c.toNat : Int) ∧ (c.toNat : Int) ≤ 102 then (c.toNat : Int) - 87 else -1) := by
    apply Lib.hid
    unfold nib
    have e1 : (48 ≤ c.toNat ∧ c.toNat ≤ 57) ↔ (48 ≤ (c.toNat : Int) ∧ (c.toNat : Int) ≤ 57) := by omega
    have e2 : (97 ≤ c.toNat ∧ c.toNat ≤ 102) ↔ (97 ≤ (c.toNat : Int) ∧ (c.toNat : Int) ≤ 102) := by omega
    simp only [e1, e2]
  generalize nib c = r at HN
  generalize (c.toNat : Int) = n at h0 h1 HN
  by_cases ha : 48 ≤ n
  · by_cases hb : n ≤ 57
    · go_enter Tryz.func123, Tryz.ntmps123
      go_wp2
      go_ret
      exact ⟨ret_int (by rw [HN.out, if_pos ⟨ha, hb⟩]), rfl⟩
    · by_cases hc : 97 ≤ n
      · by_cases hd : n ≤ 102
        · go_enter Tryz.func123, Tryz.ntmps123
          go_wp2
          go_ret
          exact ⟨ret_int (by rw [HN.out, if_neg (by omega), if_pos ⟨hc, hd⟩]; omega), rfl⟩
        · go_enter Tryz.func123, Tryz.ntmps123
          go_wp2
          go_ret
          exact ⟨ret_int (by rw [HN.out, if_neg (by omega), if_neg (by omega)]), rfl⟩
      · go_enter Tryz.func123, Tryz.ntmps123
        go_wp2
        go_ret
        exact ⟨ret_int (by rw [HN.out, if_neg (by omega), if_neg (by omega)]), rfl⟩
  · have hc : ¬ 97 ≤ n := by omega
    go_enter Tryz.func123, Tryz.ntmps123
    go_wp2
    go_ret
    exact ⟨ret_int (by rw [HN.out, if_neg (by omega), if_neg (by omega)]), rfl⟩

/-- The document's number is told. -/
def RNum (l : List UInt8) (w : World) (e : Ending) (w' : World) : Prop := e = .returned (.tuple #[.int .i64 ((rnum l).getD 0), .bool (rnum l).isSome]) ∧ w = w'
theorem rnum_none {l : List UInt8} {w : World} (h : rnum l = none) : RNum l w (.returned (.tuple #[.int .i64 0, .bool false])) w := by rw [RNum, h]; exact ⟨rfl, rfl⟩
theorem rnum_some {l : List UInt8} {w : World} {n : Int} (h : rnum l = some n) : RNum l w (.returned (.tuple #[.int .i64 n, .bool true])) w := by rw [RNum, h]; exact ⟨rfl, rfl⟩

theorem tdiv10 (a : Int) : Int.tdiv a 10 = a / 10 + if 0 ≤ a ∨ 10 ∣ a then 0 else 1 := by rw [Int.tdiv_eq_ediv]; rfl
theorem numGo_step {neg : Bool} {n m : Int} {c : UInt8} {r : List UInt8} (h : stepN neg n c = some m) : numGo neg n (c :: r) = numGo neg m r := by simp [numGo, h]
theorem numGo_stop {neg : Bool} {n : Int} {c : UInt8} {r : List UInt8} (h : stepN neg n c = none) : numGo neg n (c :: r) = none := by simp [numGo, h]
theorem stepN_bad {neg : Bool} {n : Int} {c : UInt8} (h : ¬ (48 ≤ (c.toNat : Int) ∧ (c.toNat : Int) ≤ 57)) : stepN neg n c = none := by
  unfold stepN; rw [if_pos (by omega)]
theorem stepN_neg {n : Int} {c : UInt8} (h : 48 ≤ (c.toNat : Int)) (h2 : (c.toNat : Int) ≤ 57) (h3 : (-9223372036854775808 + ((c.toNat : Int) - 48)).tdiv 10 ≤ n) : stepN true n c = some (n * 10 - ((c.toNat : Int) - 48)) := by
  unfold stepN; rw [if_neg (by omega), if_neg (by simp; exact h3)]; rfl
theorem stepN_negno {n : Int} {c : UInt8} (h : ¬ (-9223372036854775808 + ((c.toNat : Int) - 48)).tdiv 10 ≤ n) : stepN true n c = none := by
  unfold stepN; split
  · rfl
  · rw [if_pos (.inl ⟨rfl, by omega⟩)]
theorem tdivp {c : UInt8} (h2 : (c.toNat : Int) ≤ 57) : (9223372036854775807 - ((c.toNat : Int) - 48)).tdiv 10 = (9223372036854775807 - ((c.toNat : Int) - 48)) / 10 := by
  rw [tdiv10, if_pos (.inl (by omega))]; omega
theorem stepN_pos {n : Int} {c : UInt8} (h : 48 ≤ (c.toNat : Int)) (h2 : (c.toNat : Int) ≤ 57) (h3 : n ≤ (9223372036854775807 - ((c.toNat : Int) - 48)) / 10) : stepN false n c = some (n * 10 + ((c.toNat : Int) - 48)) := by
  have e := tdivp h2
  unfold stepN; rw [if_neg (by omega), if_neg (by rw [e]; simp; omega)]; rfl
theorem stepN_posno {n : Int} {c : UInt8} (h : (c.toNat : Int) ≤ 57) (h3 : ¬ n ≤ (9223372036854775807 - ((c.toNat : Int) - 48)) / 10) : stepN false n c = none := by
  unfold stepN; split
  · rfl
  · rw [if_pos (.inr ⟨rfl, by rw [tdivp h]; omega⟩)]
theorem negL_yes {l : List UInt8} (h : l[0]? = some 45) : negL l = true := by simp [negL, h]
theorem rnum_at {l : List UInt8} {b : Bool} {k : Nat} (hb : negL l = b) (hk : numAt l = k) (h : ¬ (k = l.length ∨ (l[k]? = some 48 ∧ 1 < l.length))) : rnum l = numGo b 0 (l.drop k) := by
  unfold rnum; rw [hb, hk, if_neg h]
theorem rnum_no' {l : List UInt8} {k : Nat} (hk : numAt l = k) (h : k = l.length ∨ (l[k]? = some 48 ∧ 1 < l.length)) : rnum l = none := by
  unfold rnum; rw [hk, if_pos h]
theorem idxk (s : ByteArray) (k : Nat) (h : k < s.size) : s.data.toList[k]? = some s[k] := by
  rw [List.getElem?_eq_getElem (by simpa using h)]; rfl


set_option maxRecDepth 100000 in
set_option maxHeartbeats 1000000 in
theorem Number_neg (s : ByteArray) (hs : s.size ≤ 100000000) (w : World) (h0 : 0 < s.size) (h45 : s[0] = 45) : Calls Tryz.prog 124 #[.string s] w (RNum s.data.toList w) := by
  have hq : ((s[0].toNat : Int) == 45) = true := u8_eq h45
  have hi : (0 : Int) < (s.size : Int) := by omega
  have hng : negL s.data.toList = true := negL_yes (by rw [idx0 s h0, h45])
  have hat : numAt s.data.toList = 1 := by simp [numAt, hng]
  by_cases h1 : s.size = 1
  · have HL := Lib.hid (rnum_no' hat (.inl (by simpa using h1.symm)))
    have hz : ((1 : Int) == (s.size : Int)) = true := by simp; omega
    clear h1 h45 hng hat
    go_enter Tryz.func124, Tryz.ntmps124
    go_wp2
    go_ret2
    exact rnum_none HL.out
  · have hz : ((1 : Int) == (s.size : Int)) = false := by simp; omega
    have hi1 : (1 : Int) < (s.size : Int) := by omega
    by_cases h48 : s[1] = 48
    · have HL := Lib.hid (rnum_no' hat (.inr ⟨by rw [idxk s 1 (by omega), h48], by simp; omega⟩))
      have hq48 : ((s[1].toNat : Int) == 48) = true := u8_eq h48
      clear h1 h45 h48 hng hat
      go_enter Tryz.func124, Tryz.ntmps124
      go_wp2
      go_ret2
      exact rnum_none HL.out
    · have hq48 : ((s[1].toNat : Int) == 48) = false := u8_ne h48
      have HX := Lib.hid (rnum_at hng hat (by rw [idxk s 1 (by omega)]; simp [h48]; omega))
      clear h1 h45 h48 hng hat
      go_enter Tryz.func124, Tryz.ntmps124
      go_wp2
      go_loop [4, 5] (fun n i => ∃ (k : Nat) (m : Int), 1 ≤ k ∧ k ≤ s.size ∧ i = .int .i64 k ∧ n = .int .i64 m ∧ -9223372036854775808 ≤ m ∧ m ≤ 9223372036854775807 ∧ m ≤ 0 ∧ Hid (rnum s.data.toList = numGo true m (s.data.toList.drop k))) (fun _ i => s.size - (intOf i).toNat)
      case atStart => exact ⟨1, 0, by omega, by omega, rfl, rfl, by omega, by omega, by omega, HX⟩
      case round =>
        obtain ⟨k, m, hk1, hk, rfl, rfl, hm0, hm1, hms, HK⟩ := hrel
        by_cases hlt : k < s.size
        · have HD := Lib.hid (drop_one s k hlt)
          have hc0 : (0 : Int) ≤ (s[k].toNat : Int) := Int.natCast_nonneg _
          have hc1 : (s[k].toNat : Int) ≤ 255 := by have := s[k].toNat_lt; omega
          by_cases hd : 48 ≤ (s[k].toNat : Int) ∧ (s[k].toNat : Int) ≤ 57
          · obtain ⟨h48, h57⟩ := hd
            by_cases hov : (-9223372036854775808 + ((s[k].toNat : Int) - 48)).tdiv 10 ≤ m
            · have HS := Lib.hid (stepN_neg h48 h57 hov)
              have hov2 := hov
              try rw [tdiv10] at hov2
              have b0 : -9223372036854775808 ≤ m * 10 := by omega
              have b1 : m * 10 ≤ 9223372036854775807 := by omega
              have b2 : -9223372036854775808 ≤ m * 10 - ((s[k].toNat : Int) - 48) := by omega
              have b3 : m * 10 - ((s[k].toNat : Int) - 48) ≤ 9223372036854775807 := by omega
              clear hov2
              go_wp2
              go_round
              case rel => exact ⟨k + 1, _, by omega, by omega, by go_num, rfl, by omega, by omega, by omega, Lib.hid (by rw [HK.out, HD.out, numGo_step HS.out])⟩
              case measure => simp [intOf]; omega
            · have HN : Hid (rnum s.data.toList = none) := Lib.hid (by rw [HK.out, HD.out, numGo_stop (stepN_negno hov)])
              go_wp2
              go_ret2
              exact rnum_none HN.out
          · have HN : Hid (rnum s.data.toList = none) := Lib.hid (by rw [HK.out, HD.out, numGo_stop (stepN_bad hd)])
            clear HK HD
            go_wp2
            all_goals go_ret2
            all_goals exact rnum_none HN.out
        · have HN : Hid (rnum s.data.toList = some m) := Lib.hid (by rw [HK.out, List.drop_of_length_le (by simp; omega)]; rfl)
          go_wp2
          go_ret2
          exact rnum_some HN.out

set_option maxRecDepth 100000 in
set_option maxHeartbeats 1000000 in
theorem Number_pos (s : ByteArray) (hs : s.size ≤ 100000000) (w : World) (h0 : 0 < s.size) (h45 : s[0] ≠ 45) : Calls Tryz.prog 124 #[.string s] w (RNum s.data.toList w) := by
  have hq : ((s[0].toNat : Int) == 45) = false := u8_ne h45
  have hi : (0 : Int) < (s.size : Int) := by omega
  have hng : negL s.data.toList = false := by simp [negL, idx0 s h0, h45]
  have hat : numAt s.data.toList = 0 := by simp [numAt, hng]
  have hz : ((0 : Int) == (s.size : Int)) = false := by simp; omega
  by_cases h48 : s[0] = 48
  · have hq48 : ((s[0].toNat : Int) == 48) = true := u8_eq h48
    by_cases h1 : 1 < s.size
    · have HL := Lib.hid (rnum_no' hat (.inr ⟨by rw [idxk s 0 (by omega), h48], by simp; omega⟩))
      have hi1 : (1 : Int) < (s.size : Int) := by omega
      clear h45 h48 hng hat
      go_enter Tryz.func124, Tryz.ntmps124
      go_wp2
      go_ret2
      exact rnum_none HL.out
    · have HX := Lib.hid (rnum_at hng hat (by simp; omega))
      have hi1 : ¬ (1 : Int) < (s.size : Int) := by omega
      clear h45 h48 hng hat
      go_enter Tryz.func124, Tryz.ntmps124
      go_wp2
      go_loop [4, 5] (fun n i => ∃ (k : Nat) (m : Int), 0 ≤ k ∧ k ≤ s.size ∧ i = .int .i64 k ∧ n = .int .i64 m ∧ -9223372036854775808 ≤ m ∧ m ≤ 9223372036854775807 ∧ 0 ≤ m ∧ Hid (rnum s.data.toList = numGo false m (s.data.toList.drop k))) (fun _ i => s.size - (intOf i).toNat)
      case atStart => exact ⟨0, 0, by omega, by omega, rfl, rfl, by omega, by omega, by omega, HX⟩
      case round =>
        obtain ⟨k, m, hk1, hk, rfl, rfl, hm0, hm1, hms, HK⟩ := hrel
        by_cases hlt : k < s.size
        · have HD := Lib.hid (drop_one s k hlt)
          have hc0 : (0 : Int) ≤ (s[k].toNat : Int) := Int.natCast_nonneg _
          have hc1 : (s[k].toNat : Int) ≤ 255 := by have := s[k].toNat_lt; omega
          by_cases hd : 48 ≤ (s[k].toNat : Int) ∧ (s[k].toNat : Int) ≤ 57
          · obtain ⟨h48, h57⟩ := hd
            by_cases hov : m ≤ (9223372036854775807 - ((s[k].toNat : Int) - 48)) / 10
            · have HS := Lib.hid (stepN_pos h48 h57 hov)
              have hov2 := hov
              try rw [tdiv10] at hov2
              have b0 : -9223372036854775808 ≤ m * 10 := by omega
              have b1 : m * 10 ≤ 9223372036854775807 := by omega
              have b2 : -9223372036854775808 ≤ m * 10 - ((s[k].toNat : Int) - 48) := by omega
              have b3 : m * 10 - ((s[k].toNat : Int) - 48) ≤ 9223372036854775807 := by omega
              clear hov2
              go_wp2
              go_round
              case rel => exact ⟨k + 1, _, by omega, by omega, by go_num, rfl, by omega, by omega, by omega, Lib.hid (by rw [HK.out, HD.out, numGo_step HS.out])⟩
              case measure => simp [intOf]; omega
            · have HN : Hid (rnum s.data.toList = none) := Lib.hid (by rw [HK.out, HD.out, numGo_stop (stepN_posno h57 hov)])
              go_wp2
              go_ret2
              exact rnum_none HN.out
          · have HN : Hid (rnum s.data.toList = none) := Lib.hid (by rw [HK.out, HD.out, numGo_stop (stepN_bad hd)])
            clear HK HD
            go_wp2
            all_goals go_ret2
            all_goals exact rnum_none HN.out
        · have HN : Hid (rnum s.data.toList = some m) := Lib.hid (by rw [HK.out, List.drop_of_length_le (by simp; omega)]; rfl)
          go_wp2
          go_ret2
          exact rnum_some HN.out
  · have hq48 : ((s[0].toNat : Int) == 48) = false := u8_ne h48
    have HX := Lib.hid (rnum_at hng hat (by rw [idxk s 0 (by omega)]; simp [h48]; omega))
    all_goals
      clear h45 h48 hng hat
      go_enter Tryz.func124, Tryz.ntmps124
      go_wp2
      go_loop [4, 5] (fun n i => ∃ (k : Nat) (m : Int), 0 ≤ k ∧ k ≤ s.size ∧ i = .int .i64 k ∧ n = .int .i64 m ∧ -9223372036854775808 ≤ m ∧ m ≤ 9223372036854775807 ∧ 0 ≤ m ∧ Hid (rnum s.data.toList = numGo false m (s.data.toList.drop k))) (fun _ i => s.size - (intOf i).toNat)
      case atStart => exact ⟨0, 0, by omega, by omega, rfl, rfl, by omega, by omega, by omega, HX⟩
      case round =>
        obtain ⟨k, m, hk1, hk, rfl, rfl, hm0, hm1, hms, HK⟩ := hrel
        by_cases hlt : k < s.size
        · have HD := Lib.hid (drop_one s k hlt)
          have hc0 : (0 : Int) ≤ (s[k].toNat : Int) := Int.natCast_nonneg _
          have hc1 : (s[k].toNat : Int) ≤ 255 := by have := s[k].toNat_lt; omega
          by_cases hd : 48 ≤ (s[k].toNat : Int) ∧ (s[k].toNat : Int) ≤ 57
          · obtain ⟨h48, h57⟩ := hd
            by_cases hov : m ≤ (9223372036854775807 - ((s[k].toNat : Int) - 48)) / 10
            · have HS := Lib.hid (stepN_pos h48 h57 hov)
              have hov2 := hov
              try rw [tdiv10] at hov2
              have b0 : -9223372036854775808 ≤ m * 10 := by omega
              have b1 : m * 10 ≤ 9223372036854775807 := by omega
              have b2 : -9223372036854775808 ≤ m * 10 - ((s[k].toNat : Int) - 48) := by omega
              have b3 : m * 10 - ((s[k].toNat : Int) - 48) ≤ 9223372036854775807 := by omega
              clear hov2
              go_wp2
              go_round
              case rel => exact ⟨k + 1, _, by omega, by omega, by go_num, rfl, by omega, by omega, by omega, Lib.hid (by rw [HK.out, HD.out, numGo_step HS.out])⟩
              case measure => simp [intOf]; omega
            · have HN : Hid (rnum s.data.toList = none) := Lib.hid (by rw [HK.out, HD.out, numGo_stop (stepN_posno h57 hov)])
              go_wp2
              go_ret2
              exact rnum_none HN.out
          · have HN : Hid (rnum s.data.toList = none) := Lib.hid (by rw [HK.out, HD.out, numGo_stop (stepN_bad hd)])
            clear HK HD
            go_wp2
            all_goals go_ret2
            all_goals exact rnum_none HN.out
        · have HN : Hid (rnum s.data.toList = some m) := Lib.hid (by rw [HK.out, List.drop_of_length_le (by simp; omega)]; rfl)
          go_wp2
          go_ret2
          exact rnum_some HN.out
theorem Number_any (s : ByteArray) (hs : s.size ≤ 100000000) (w : World) : Calls Tryz.prog 124 #[.string s] w (RNum s.data.toList w) := by
  by_cases h0 : 0 < s.size
  · by_cases h45 : s[0] = 45
    · exact Number_neg s hs w h0 h45
    · exact Number_pos s hs w h0 h45
  · have HL : Hid (rnum s.data.toList = none) := Lib.hid (by
      have : s.data.toList = [] := List.eq_nil_of_length_eq_zero (by rw [size_len]; omega)
      rw [this]; rfl)
    have hi : ¬ (0 : Int) < (s.size : Int) := by omega
    have hz : ((0 : Int) == (s.size : Int)) = true := by simp; omega
    go_enter Tryz.func124, Tryz.ntmps124
    go_wp2
    go_ret2
    exact rnum_none HL.out
end Go.Proofs.YtkkildkleleppaaGreatDoor
namespace Go.Proofs.YtkkildkleleppaaGreatDoor
open Go.RowKit

theorem infoI : (Tryz.prog.info? 3).map (fun i => (i.zero, i.size, i.bytes)) = some (some (.int .i64 0), 1, 8) := by kernel_rfl
theorem infoSr : (Tryz.prog.info? 9).map (fun i => (i.zero, i.size, i.bytes)) = some (some (.string ⟨#[]⟩), 1, 16) := by kernel_rfl
/-- Numbers as cells. -/
def icells (l : List Nat) : List Value := l.map fun (k : Nat) => .int .i64 (k : Int)
theorem icells_append (a b : List Nat) : icells (a ++ b) = icells a ++ icells b := by simp [icells]
theorem icells_at (l : List Nat) (i : Nat) (h : i < l.length) : (icells l)[i]? = some (.int .i64 (l[i] : Int)) := by simp [icells, List.getElem?_eq_getElem h]

def EndsEnd (l : List UInt8) (w : World) (e : Ending) (w' : World) : Prop := ∃ v, e = .returned v ∧ w'.ownsRow w.heap.size 3 1 v (endsL false 0 l).length (icells (endsL false 0 l)) ∧ Below w.heap.size w w'
theorem endsL_hit {i : Nat} {r : List UInt8} : endsL false i (10 :: r) = (i + 1) :: endsL false (i + 1) r := by
  rw [endsL, if_pos ⟨rfl, rfl⟩]; rfl
theorem endsL_miss {q : Bool} {i : Nat} {c : UInt8} {r : List UInt8} (h : c ≠ 10 ∨ tog q c = true) : endsL q i (c :: r) = endsL (tog q c) (i + 1) r := by
  rw [endsL, if_neg]
  rintro ⟨h1, h2⟩
  rcases h with h | h
  · exact h h1
  · rw [h] at h2; cases h2


set_option maxRecDepth 100000 in
set_option maxHeartbeats 1000000 in
theorem Ends_any (s : ByteArray) (hs : s.size ≤ 100000000) (w : World) : Calls Tryz.prog 36 #[.string s] w (EndsEnd s.data.toList w) := by
  go_enter Tryz.func36, Tryz.ntmps36
  go_wp2
  go_loopw [3, 4, 5] (fun out q i wr => ∃ (k : Nat) (b : Bool) (es : List Nat), k ≤ s.size ∧ i = .int .i64 k ∧ q = .bool b ∧ wr.ownsRow w.heap.size 3 1 out es.length (icells es) ∧ Below w.heap.size w wr ∧ es.length ≤ k ∧ Hid (endsL false 0 s.data.toList = es ++ endsL b k (s.data.toList.drop k))) (fun _ _ i _ => s.size - (intOf i).toNat)
  case atStart => exact ⟨0, false, [], by omega, rfl, rfl, World.ownsRow_nil _ _ _ _, Below.refl _ _, by simp, Lib.hid (by simp)⟩
  case round =>
    obtain ⟨k, b, es, hk, rfl, rfl, hown, hb, hel, HK⟩ := hrel
    by_cases hlt : k < s.size
    · have HD := Lib.hid (drop_one s k hlt)
      by_cases h39 : s[k] = 39
      · have hq : ((s[k].toNat : Int) == 39) = true := u8_eq h39
        have hq2 : ((s[k].toNat : Int) == 10) = false := by rw [h39]; rfl
        have HX : Hid (endsL false 0 s.data.toList = es ++ endsL (!b) (k + 1) (s.data.toList.drop (k + 1))) := Lib.hid (by rw [HK.out, HD.out, endsL_miss (.inl (by rw [h39]; decide)), show tog b s[k] = !b by simp [tog, h39]])
        clear h39
        go_wp2
        go_roundw
        case rel => exact ⟨k + 1, !b, es, by omega, by go_num, rfl, hown, hb, by omega, HX⟩
        case measure => simp [intOf]; omega
      · have hq : ((s[k].toNat : Int) == 39) = false := u8_ne h39
        have ht : tog b s[k] = b := by simp [tog, h39]
        by_cases h10 : s[k] = 10
        · have hq2 : ((s[k].toNat : Int) == 10) = true := u8_eq h10
          cases b with
          | true =>
            have HX : Hid (endsL false 0 s.data.toList = es ++ endsL true (k + 1) (s.data.toList.drop (k + 1))) := Lib.hid (by rw [HK.out, HD.out, endsL_miss (.inr ht), ht])
            clear h39 h10 ht
            go_wp2
            go_roundw
            case rel => exact ⟨k + 1, true, es, by omega, by go_num, rfl, hown, hb, by omega, HX⟩
            case measure => simp [intOf]; omega
          | false =>
            have HX : Hid (endsL false 0 s.data.toList = (es ++ [k + 1]) ++ endsL false (k + 1) (s.data.toList.drop (k + 1))) := Lib.hid (by rw [HK.out, HD.out, h10, endsL_hit]; simp)
            clear h39 h10 ht
            go_wp2_with (at_builtin; refine wpList_pushR wr 3 _ rfl (.tmp 26) (.tmp 29) _ rfl w.heap.size _ 1 8 Tryz.underlying43 infoI rfl (by decide) (by decide) _ es.length (icells es) rfl hown [.int .i64 ((k : Int) + 1)] rfl (by intro u hu; simp at hu; subst hu; rfl) 1 1 rfl rfl (by omega) hb.size ?_; intro v3 w3 hown3 hg3)
            go_roundw
            case rel => exact ⟨k + 1, false, es ++ [k + 1], by omega, by go_num, rfl, by rw [icells_append, List.length_append]; exact hown3, own_next hown hb hg3 hb.size, by simp; omega, HX⟩
            case measure => simp [intOf]; omega
        · have hq2 : ((s[k].toNat : Int) == 10) = false := u8_ne h10
          have HX : Hid (endsL false 0 s.data.toList = es ++ endsL b (k + 1) (s.data.toList.drop (k + 1))) := Lib.hid (by rw [HK.out, HD.out, endsL_miss (.inl h10), ht])
          clear h39 h10 ht
          go_wp2
          go_roundw
          case rel => exact ⟨k + 1, b, es, by omega, by go_num, rfl, hown, hb, by omega, HX⟩
          case measure => simp [intOf]; omega
    · have HX : Hid (endsL false 0 s.data.toList = es) := Lib.hid (by rw [HK.out, List.drop_of_length_le (by simp; omega)]; simp [endsL])
      go_wp2
      go_ret
      refine ⟨_, rfl, ?_, hb⟩
      rw [HX.out]; exact hown
end Go.Proofs.YtkkildkleleppaaGreatDoor
