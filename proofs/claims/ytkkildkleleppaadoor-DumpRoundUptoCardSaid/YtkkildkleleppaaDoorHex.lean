/- value.hex, guess, Read. -/
import Derived.Test.YtkkildkleleppaaDoorPrint2
import Derived.Test.YtkkildkleleppaaDoorRdef
namespace Go.Proofs.YtkkildkleleppaaDoor
open Go.RowKit

def hexL : List UInt8 := [48, 49, 50, 51, 52, 53, 54, 55, 56, 57, 97, 98, 99, 100, 101, 102]
def xd (c : UInt8) : Int := Lib.indexByte hexL c
/-- The bytes of digits to the base 16. -/
def unhex : List UInt8 → Option (List UInt8)
  | [] => some []
  | [_] => none
  | a :: b :: r => if xd a < 0 ∨ xd b < 0 then none else (unhex r).map (UInt8.ofNat ((xd a).toNat * 16 + (xd b).toNat) :: ·)

set_option maxRecDepth 100000 in
theorem xd_all : ∀ c : Fin 256, -1 ≤ xd (UInt8.ofNat c.val) ∧ xd (UInt8.ofNat c.val) ≤ 15 := by decide
theorem ofNat_toNat8 (c : UInt8) : UInt8.ofNat c.toNat = c := by simp
theorem xd_bounds (c : UInt8) : -1 ≤ xd c ∧ xd c ≤ 15 := by
  have h := xd_all ⟨c.toNat, c.toNat_lt⟩
  simpa using h
theorem xd_arg (c : UInt8) : Lib.indexByte (ByteArray.mk #[48, 49, 50, 51, 52, 53, 54, 55, 56, 57, 97, 98, 99, 100, 101, 102]).data.toList ((c.toNat : Int).toNat.toUInt8) = xd c := by
  have : ((c.toNat : Int).toNat.toUInt8) = c := by simp
  rw [this]; rfl

set_option maxRecDepth 100000 in
theorem bits_all : ∀ i j : Fin 16, bits .or .i64 ((i.val : Int) * 16) (j.val : Int) % 256 = ((UInt8.ofNat (i.val * 16 + j.val)).toNat : Int) := by decide
theorem bits_hex (a b : Int) (h0 : 0 ≤ a) (h1 : a ≤ 15) (h2 : 0 ≤ b) (h3 : b ≤ 15) : bits .or .i64 (a * 16) b % 256 = ((UInt8.ofNat (a.toNat * 16 + b.toNat)).toNat : Int) := by
  have h := bits_all ⟨a.toNat, by omega⟩ ⟨b.toNat, by omega⟩
  simp only at h
  rw [Int.toNat_of_nonneg h0, Int.toNat_of_nonneg h2] at h
  exact h
theorem drop_cons2 (s : ByteArray) (k : Nat) (h : k + 1 < s.size) : s.data.toList.drop k = s[k] :: s[k + 1] :: s.data.toList.drop (k + 2) := by
  rw [List.drop_eq_getElem_cons (by simpa using (by omega : k < s.size)), List.drop_eq_getElem_cons (by simpa using h)]; rfl

def HexEnd (l : List UInt8) (w : World) (e : Ending) (w' : World) : Prop := ∃ x, Ret w (.tuple #[.string x, .bool (unhex l).isSome]) e w' ∧ ∀ y, unhex l = some y → x = ⟨y.toArray⟩

set_option maxRecDepth 100000 in
set_option maxHeartbeats 1000000 in
theorem hex_any (s : ByteArray) (hs : s.size ≤ 1099511627776) (w : World) : Calls Tryd.prog 67 #[.string s] w (HexEnd s.data.toList w) := by
  go_enter Tryd.func67, Tryd.ntmps67
  go_wp2_with fail
  go_loopw [4, 5] (fun out i wr => ∃ (k : Nat) (x : List UInt8), k ≤ s.size ∧ k % 2 = 0 ∧ i = .int .i64 k ∧ OwnB 5 wr w.heap.size out x ∧ x.length ≤ k ∧ Below w.heap.size w wr ∧
      Hid (unhex s.data.toList = (unhex (s.data.toList.drop k)).map (x ++ ·))) (fun _ i _ => s.size - (intOf i).toNat)
  case atStart => exact ⟨0, [], by omega, rfl, rfl, OwnB.nil_ _ _ _, by simp, Below.refl _ _, Lib.hid (by simp)⟩
  case round =>
    obtain ⟨k, x, hk, hpar, rfl, hown, hxl, hb, HX⟩ := hrel
    by_cases hlt : k + 1 < s.size
    · have HD := Lib.hid (drop_cons2 s k hlt)
      have hk0 : (0 : Int) ≤ (k : Int) := Int.natCast_nonneg _
      have hA := xd_bounds s[k]
      have hB := xd_bounds s[k + 1]
      by_cases ha : xd s[k] < 0
      · go_wp2_with (go_at_call 68; refine (Tryd.strings_IndexByte _ _ _).mono ?_; rintro e w1 ⟨rfl, rfl⟩; rw [xd_arg])
        go_ret2
        have hn : unhex s.data.toList = none := by rw [HX.out, HD.out]; simp [unhex, ha]
        unfold HexEnd; rw [hn]
        exact ⟨_, ⟨rfl, hb⟩, by simp⟩
      · by_cases hb2 : xd s[k + 1] < 0
        · go_wp2_with (go_at_call 68; refine (Tryd.strings_IndexByte _ _ _).mono ?_; rintro e w1 ⟨rfl, rfl⟩; rw [xd_arg])
          go_ret2
          have hn : unhex s.data.toList = none := by rw [HX.out, HD.out]; simp [unhex, hb2]
          unfold HexEnd; rw [hn]
          exact ⟨_, ⟨rfl, hb⟩, by simp⟩
        · generalize hea : xd s[k] = a at ha hA
          generalize heb : xd s[k + 1] = b at hb2 hB
          have HA := Lib.hid hea
          have HB := Lib.hid heb
          have HT := Lib.hid (bits_hex a b (by omega) hA.2 (by omega) hB.2)
          go_wp2_with (first
            | (go_at_call 68; refine (Tryd.strings_IndexByte _ _ _).mono ?_; rintro e w1 ⟨rfl, rfl⟩; rw [xd_arg]; first | rw [HA.out] | rw [HB.out])
            | (at_builtin; rw [HT.out]; refine wpList_pushB w1 5 _ rfl (.tmp 30) (.tmp 36) _ rfl w.heap.size Tryd.underlying36 infoB _ _ rfl hown [UInt8.ofNat (a.toNat * 16 + b.toNat)] rfl 1 1 rfl rfl (by simp; omega) hb.size ?_; intro v3 w3 hown3 hg3))
          go_roundw
          case rel =>
            refine ⟨k + 2, _, by omega, by omega, by go_num, hown3, by simp; omega, OwnB.next hown hb hg3 hb.size, ?_⟩
            apply Lib.hid
            rw [HX.out, HD.out]
            simp only [unhex]
            rw [HA.out, HB.out, if_neg (by omega)]
            cases unhex (s.data.toList.drop (k + 2)) <;> simp
          case measure => simp [intOf]; omega
    · have hk2 : k = s.size ∨ k + 1 = s.size := by omega
      rcases hk2 with hk2 | hk2
      · have hd : s.data.toList.drop k = [] := by rw [hk2]; exact List.drop_of_length_le (Nat.le_refl _)
        have HU : Hid (unhex s.data.toList = some x) := by apply Lib.hid; rw [HX.out, hd]; simp [unhex]
        have hm : (s.size : Int) % 2 = 0 := by omega
        clear HX hd
        have hcv := run_convert_own (P := Tryd.prog) wr _ 5 9 Tryd.underlying36 Tryd.underlying5 Tryd.underlying9 _ _ _ hown
        go_wp2
        go_ret2
        unfold HexEnd; rw [HU.out]
        exact ⟨⟨x.toArray⟩, ⟨by simp [hm], hb⟩, fun y hy => by cases hy; rfl⟩
      · have hl : s.data.toList.drop k = [s[k]'(by omega)] := by rw [List.drop_eq_getElem_cons (by simpa using (by omega : k < s.size)), List.drop_of_length_le (by simpa using (by omega : s.size ≤ k + 1))]; rfl
        have HU : Hid (unhex s.data.toList = none) := by apply Lib.hid; rw [HX.out, hl]; simp [unhex]
        have hm : (s.size : Int) % 2 = 1 := by omega
        clear HX hl
        have hcv := run_convert_own (P := Tryd.prog) wr _ 5 9 Tryd.underlying36 Tryd.underlying5 Tryd.underlying9 _ _ _ hown
        go_wp2
        go_ret2
        unfold HexEnd; rw [HU.out]
        exact ⟨⟨x.toArray⟩, ⟨by simp [hm], hb⟩, fun y hy => by cases hy⟩
end Go.Proofs.YtkkildkleleppaaDoor
