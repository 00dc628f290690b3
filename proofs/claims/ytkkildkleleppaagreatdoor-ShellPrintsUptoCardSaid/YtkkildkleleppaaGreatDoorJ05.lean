/- A text's literal by the tokens' layer: token.written, token.Print, dump.literal; bureauref15.Written, Print: of texts alone. The reference's text of what is told: bureauref15.Written, Print of texts; bureauref31.Part, Text. -/
import Derived.Test.YtkkildkleleppaaGreatDoorJ04
import Derived.Lib.IndexBytes
namespace Go.Proofs.YtkkildkleleppaaGreatDoor
open Go.RowKit

theorem infoS : (Tryz.prog.info? 9).map (fun i => (i.zero, i.size, i.bytes)) = some (some (.string ⟨#[]⟩), 1, 16) := by kernel_rfl

/-- A token of a text. -/
def tokV (at_ : Int) (s : ByteArray) : Value := .agg #[.int .i64 3, .int .i64 at_, .string s]

set_option maxHeartbeats 1000000 in
theorem written_text (at_ : Int) (s : ByteArray) (hs : s.size ≤ 16777216) (w : World) (hE : Env w) :
    Calls Tryz.prog 116 #[tokV at_ s] w (Ret w (.tuple #[.string ⟨(quoted s.data.toList).toArray⟩, .bool true])) := by
  have HE := Lib.hid hE
  have hl := dbl_len s.data.toList
  rw [size_len] at hl
  clear hE
  simp only [tokV]
  go_enter Tryz.func116, Tryz.ntmps116
  go_wp2_with (go_at_call 70; refine (Dbl_any s (by omega) _ (HE.out.below ((Below.refl _ _).alloc (Nat.le_refl _) _))).mono ?_; rintro e w2 ⟨rfl, hb2⟩)
  go_ret2
  refine ⟨?_, box_below2 hb2⟩
  rw [← quote_cat]; rfl

set_option maxHeartbeats 1000000 in
theorem tPrint_text (b o c : Nat) (s : ByteArray) (hs : s.size ≤ 16777216) (w : World) (hE : Env w)
    (h0 : w.cell? ⟨b, o, none⟩ = some (.int .i64 3)) (h1 : w.cell? ⟨b, o + 1, none⟩ = some (.int .i64 0)) (h2 : w.cell? ⟨b, o + 2, none⟩ = some (.string s)) :
    Calls Tryz.prog 68 #[.slice (some ⟨b, o, none⟩) 1 c] w (Ret w (.tuple #[.string ⟨(quoted s.data.toList).toArray⟩, .int .i64 0])) := by
  have HE := Lib.hid hE
  clear hE
  obtain ⟨i0, hi, hz0, hz1, hz2⟩ := info_parts infoS
  go_enter Tryz.func68, Tryz.ntmps68
  go_wp2
  go_loopw [4, 7, 8, 11] (fun out _ _ i wr => ∃ k : Nat, k ≤ 1 ∧ i = .int .i64 k ∧ wr.ownsRow w.heap.size 9 1 out k (List.replicate k (.string ⟨(quoted s.data.toList).toArray⟩)) ∧ Below w.heap.size w wr) (fun _ _ _ i _ => 1 - (intOf i).toNat)
  case atStart => exact ⟨0, by omega, rfl, World.ownsRow_nil _ _ _ _, Below.refl _ _⟩
  case round =>
    obtain ⟨k, hk, rfl, hown, hb⟩ := hrel
    have hE2 := HE.out.below hb
    by_cases hlt : k < 1
    · obtain rfl : k = 0 := by omega
      have q0 := (hb.cell (lt_of_cell h0)).trans h0
      have q1 := (hb.cell (lt_of_cell h1)).trans h1
      have q2 := (hb.cell (lt_of_cell h2)).trans h2
      have HE2 := Lib.hid hE2
      clear hE2 h0 h1 h2
      go_wp2_with (first
        | (go_at_call 116; refine (written_text 0 s hs _ (HE2.out.below ((Below.refl _ _).alloc (Nat.le_refl _) _))).mono ?_; rintro e w2 ⟨rfl, hb2⟩; have hw2 := box_below2 hb2; have hown2 := own_kept hown hw2)
        | (at_builtin; refine wpList_pushR w2 9 _ rfl (.tmp 22) (.tmp 24) _ rfl w.heap.size _ 1 16 Tryz.underlying57 infoS rfl (by decide) (by decide) _ _ _ rfl hown2 [_] rfl (by intro u hu; simp at hu; subst hu; rfl) 1 1 rfl rfl (by omega) (Nat.le_trans hb.size hw2.size) ?_; intro v3 w3 hown3 hg3))
      go_roundw
      case rel => exact ⟨1, by omega, by go_num, hown3, own_next hown2 (hb.trans (hw2.mono hb.size)) hg3 (Nat.le_trans hb.size hw2.size)⟩
      case measure => simp [intOf]
    · obtain rfl : k = 1 := by omega
      obtain ⟨ja, jc, rfl, hjc, _, hj⟩ := own_form hown
      have hss : IsSs wr ja [⟨(quoted s.data.toList).toArray⟩] := by
        rcases hj with hj | ⟨jb, rfl, hj⟩
        · omega
        · refine .inr ⟨jb, 0, rfl, fun i s' hi => ?_⟩
          have : i = 0 ∧ s' = ⟨(quoted s.data.toList).toArray⟩ := by
            match i, hi with
            | 0, hi => simp at hi; exact ⟨rfl, hi.symm⟩
          obtain ⟨rfl, rfl⟩ := this
          exact hj 0 _ rfl
      have hl := dbl_len s.data.toList
      rw [size_len] at hl
      have hj2 := Join_any ja 1 jc _ ⟨#[32]⟩ wr hss rfl hjc (by decide) (by simp [Lib.join_one, quoted]; omega)
      simp only [List.map_cons, List.map_nil, Lib.join_one] at hj2
      have HJ := Lib.hid hj2
      clear hj2 hj hss hown h0 h1 h2
      go_wp2_with (go_at_call 112; refine HJ.out.mono ?_; rintro e w4 ⟨rfl, hb4⟩)
      go_ret2
      exact ⟨rfl, hb.trans (hb4.mono hb.size)⟩

set_option maxHeartbeats 1000000 in
theorem literal_any (s : ByteArray) (hs : s.size ≤ 16777216) (w : World) (hE : Env w) :
    Calls Tryz.prog 27 #[.string s] w (Ret w (.string ⟨(quoted s.data.toList).toArray⟩)) := by
  have HE := Lib.hid hE
  clear hE
  go_enter Tryz.func27, Tryz.ntmps27
  go_wp2_with (go_at_call 68; refine (tPrint_text w.heap.size 0 1 s hs _ (HE.out.below ((Below.refl _ _).alloc (Nat.le_refl _) _)) (by simp [go_sem]) (by simp [go_sem]) (by simp [go_sem])).mono ?_; rintro e w2 ⟨rfl, hb2⟩)
  go_ret
  exact ⟨rfl, box_below2 hb2⟩
end Go.Proofs.YtkkildkleleppaaGreatDoor
namespace Go.Proofs.YtkkildkleleppaaGreatDoor
open Go.RowKit

theorem extract_one (s : ByteArray) (k : Nat) (h : k < s.size) : (s.extract k (k + 1)).data.toList = [s[k]] := by
  rw [Lib.extract_data]
  have : s.data.toList.drop k = s[k] :: s.data.toList.drop (k + 1) := List.drop_eq_getElem_cons (by simpa using h)
  rw [this]
  simp

theorem cat_str (a b : List UInt8) : ByteArray.mk a.toArray ++ ByteArray.mk b.toArray = ByteArray.mk (a ++ b).toArray := by
  apply Go.WideShapes.bytes_inj
  simp

theorem quoted_len (l : List UInt8) : (quoted l).length = (dbl l).length + 2 := by simp [quoted]
theorem quoted_mid (l : List UInt8) (m : Nat) (h : m = (quoted l).length - 1) : (ByteArray.mk (quoted l).toArray).extract 1 m = ByteArray.mk (dbl l).toArray := by
  apply Go.WideShapes.bytes_inj
  rw [Lib.extract_data, h]
  simp [quoted]

set_option maxHeartbeats 1000000 in
theorem rwritten_text (at_ : Int) (s : ByteArray) (hs : s.size ≤ 16777216) (w : World) :
    Calls Tryz.prog 120 #[tokV at_ s] w (Ret w (.tuple #[.string ⟨(quoted s.data.toList).toArray⟩, .bool true])) := by
  simp only [tokV]
  go_enter Tryz.func120, Tryz.ntmps120
  go_wp2
  go_loopw [5, 6, 7, 8] (fun out i _ _ wr => ∃ k : Nat, k ≤ s.size ∧ i = .int .i64 k ∧ out = .string ⟨(dbl (s.data.toList.take k)).toArray⟩ ∧ Below (w.heap.size + 1) (w.alloc (.cells #[.int .i64 3, .int .i64 at_, .string s] 135)) wr) (fun _ i _ _ _ => s.size - (intOf i).toNat)
  case atStart => exact ⟨0, Nat.zero_le _, rfl, rfl, Below.refl _ _⟩
  case round =>
    obtain ⟨k, hk, rfl, rfl, hb⟩ := hrel
    have q0 : wr.cell? ⟨w.heap.size, 0, none⟩ = some (.int .i64 3) := box_cell hb 0
    have q2 : wr.cell? ⟨w.heap.size, 2, none⟩ = some (.string s) := box_cell hb 2
    have hlen := dbl_len (s.data.toList.take k)
    have hlk := take_len s k
    by_cases hlt : k < s.size
    · have HT := Lib.hid (dbl_take s k hlt)
      go_wp2_with fail
      refine (RPrint_text (s.extract k (k+1)) (by simp; omega) _).mono ?_
      rintro e w1 ⟨rfl, hb1⟩
      rw [extract_one s k hlt]
      have hq := quoted_len [s[k]]
      have hq2 : (dbl [s[k]]).length ≤ 2 := dbl_len [s[k]]
      have hq3 : 2 ≤ (quoted [s[k]]).length := by omega
      have hq4 : (quoted [s[k]]).length ≤ 4 := by omega
      clear hq hq2
      go_wp2_with fail
      go_roundw
      case rel =>
        refine ⟨k + 1, by omega, by go_num, ?_, hb.trans (hb1.mono (by have := hb.size; simpa using this))⟩
        rw [quoted_mid _ _ (by omega), cat_str, HT.out]
        simp [dbl]
      case measure => simp [intOf]; omega
    · have hkn : k = s.size := by omega
      have hall : s.data.toList.take k = s.data.toList := by rw [hkn]; exact take_all s
      rw [hall] at hlen ⊢
      have hl2 := dbl_len s.data.toList
      rw [size_len] at hl2
      have HK := Lib.hid hkn
      clear hkn hall
      go_wp2_with fail
      go_ret2
      refine ⟨?_, box_below hb⟩
      rw [← quote_cat]; rfl

end Go.Proofs.YtkkildkleleppaaGreatDoor
