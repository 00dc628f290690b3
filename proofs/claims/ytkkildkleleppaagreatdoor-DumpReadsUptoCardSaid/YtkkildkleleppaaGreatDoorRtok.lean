/- The reference's text of what is told: bureauref15.Written, Print of texts; bureauref31.Part, Text. -/
import Derived.Test.YtkkildkleleppaaGreatDoorTok
import Derived.Lib.IndexBytes
namespace Go.Proofs.YtkkildkleleppaaGreatDoor
open Go.RowKit

theorem extract_one (s : ByteArray) (k : Nat) (h : k < s.size) : (s.extract k (k + 1)).data.toList = [s[k]] := by
  rw [Lib.extract_data]
  have : s.data.toList.drop k = s[k] :: s.data.toList.drop (k + 1) := List.drop_eq_getElem_cons (by simpa using h)
  rw [this]
  simp

theorem cat_str (a b : List UInt8) : ByteArray.mk a.toArray ++ ByteArray.mk b.toArray = ByteArray.mk (a ++ b).toArray := by
  apply Go.WideShapes.bytes_inj
  simp

theorem quoted_len (l : List UInt8) : (quoted l).length = (dbl l).length + 2 := by simp [quoted]
theorem quoted_mid (l : List UInt8) (m : Nat) (h : m = (quoted l).length - 1) : (ByteArray.mk (quoted l).toArray).extract 1 m = ByteArray.mk (dbl l).toArray := by
  apply Go.WideShapes.bytes_inj
  rw [Lib.extract_data, h]
  simp [quoted]

set_option maxHeartbeats 1000000 in
theorem rwritten_text (at_ : Int) (s : ByteArray) (hs : s.size ≤ 16777216) (w : World) :
    Calls Tryz.prog 120 #[tokV at_ s] w (Ret w (.tuple #[.string ⟨(quoted s.data.toList).toArray⟩, .bool true])) := by
  simp only [tokV]
  go_enter Tryz.func120, Tryz.ntmps120
  go_wp2
  go_loopw [5, 6, 7, 8] (fun out i _ _ wr => ∃ k : Nat, k ≤ s.size ∧ i = .int .i64 k ∧ out = .string ⟨(dbl (s.data.toList.take k)).toArray⟩ ∧ Below (w.heap.size + 1) (w.alloc (.cells #[.int .i64 3, .int .i64 at_, .string s] 135)) wr) (fun _ i _ _ _ => s.size - (intOf i).toNat)
  case atStart => exact ⟨0, Nat.zero_le _, rfl, rfl, Below.refl _ _⟩
  case round =>
    obtain ⟨k, hk, rfl, rfl, hb⟩ := hrel
    have q0 : wr.cell? ⟨w.heap.size, 0, none⟩ = some (.int .i64 3) := box_cell hb 0
    have q2 : wr.cell? ⟨w.heap.size, 2, none⟩ = some (.string s) := box_cell hb 2
    have hlen := dbl_len (s.data.toList.take k)
    have hlk := take_len s k
    by_cases hlt : k < s.size
    · have HT := Lib.hid (dbl_take s k hlt)
      go_wp2_with fail
      refine (RPrint_text (s.extract k (k+1)) (by simp; omega) _).mono ?_
      rintro e w1 ⟨rfl, hb1⟩
      rw [extract_one s k hlt]
      have hq := quoted_len [s[k]]
      have hq2 : (dbl [s[k]]).length ≤ 2 := dbl_len [s[k]]
      have hq3 : 2 ≤ (quoted [s[k]]).length := by omega
      have hq4 : (quoted [s[k]]).length ≤ 4 := by omega
      clear hq hq2
      go_wp2_with fail
      go_roundw
      case rel =>
        refine ⟨k + 1, by omega, by go_num, ?_, hb.trans (hb1.mono (by have := hb.size; simpa using this))⟩
        rw [quoted_mid _ _ (by omega), cat_str, HT.out]
        simp [dbl]
      case measure => simp [intOf]; omega
    · have hkn : k = s.size := by omega
      have hall : s.data.toList.take k = s.data.toList := by rw [hkn]; exact take_all s
      rw [hall] at hlen ⊢
      have hl2 := dbl_len s.data.toList
      rw [size_len] at hl2
      have HK := Lib.hid hkn
      clear hkn hall
      go_wp2_with fail
      go_ret2
      refine ⟨?_, box_below hb⟩
      rw [← quote_cat]; rfl

end Go.Proofs.YtkkildkleleppaaGreatDoor
