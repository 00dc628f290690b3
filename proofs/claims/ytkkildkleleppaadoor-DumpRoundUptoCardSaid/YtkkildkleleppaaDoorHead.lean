/- The calls whose answers the document fixes (bureaulaw31.head). -/
import Derived.Test.YtkkildkleleppaaDoorDr
import Derived.Test.YtkkildkleleppaaDoorText
namespace Go.Proofs.YtkkildkleleppaaDoor
open Go.RowKit

/-- What 'a',1,NULL tells. -/
def h1T : T := ⟨⟨#[97]⟩, [⟨1, 1, ByteArray.empty⟩, ⟨0, 0, ByteArray.empty⟩]⟩
def h1L : List UInt8 := [39, 97, 39, 44, 49, 44, 78, 85, 76, 76, 10]
theorem h1_may : h1T.may = true := by decide
theorem h1_fit : h1T.fit := by
  intro v hv
  simp only [h1T, List.mem_cons, List.not_mem_nil, or_false] at hv
  rcases hv with rfl | rfl <;> exact ⟨by decide, by decide⟩
theorem h1_part : h1T.part = h1L := by
  have e1 : Lib.itoa 1 = [49] := by
    unfold Lib.itoa
    rw [if_neg (by decide)]
    exact Lib.decDigits_one (i := 1) (by decide)
  have e2 : (V.mk 1 1 ByteArray.empty).lit = [49] := by rw [lit_int, e1]
  have e3 : (V.mk 0 0 ByteArray.empty).lit = [78, 85, 76, 76] := rfl
  simp only [T.part, h1T, paramsT, List.flatMap_cons, List.flatMap_nil, e2, e3]
  rfl
theorem h1_flat : flatT [h1T] = h1L := by rw [flatT_one, h1_part]
theorem h1_text : textS [h1T] = h1L ∧ textE [h1T] = 0 := by
  have h : [h1T].all T.may = true := by simp [h1_may]
  simp only [textS, textE, h, if_true, h1_flat, and_self]
theorem h1_read : readS (h1L.length + 1) h1L 0 = .ok [h1T] :=
  readS_full [h1T] _ h1L 0 (by decide) (by simp [h1_may]) (by intro t ht; simp at ht; subst ht; exact h1_fit) (by rw [h1_flat]; rfl)
def h2L : List UInt8 := [39, 97, 39]
theorem h2_read : readS (h2L.length + 1) h2L 0 = .error 0 := by
  refine readS_none (by decide) ?_
  have hq : qtd h2L 0 = some ([97], 3) := by decide
  rw [partS_tail hq]
  exact (tailS_some (vs := []) (k := 3) (paramsS_end (by decide))).trans (by rw [if_neg]; rintro ⟨h, _⟩; exact absurd h (by decide))

theorem head_read1 (w : World) (hE : Env w) : Calls Tryd.prog 7 #[.string ⟨#[39, 97, 39, 44, 49, 44, 78, 85, 76, 76, 10]⟩] w fun e w' => ∃ b c pa pc, e = .returned (.tuple #[.slice (some ⟨b, 0, none⟩) 1 c, .int .i64 0, .int .i64 0]) ∧
    w'.cell? ⟨b, 0, none⟩ = some (.string ⟨#[97]⟩) ∧ w'.cell? ⟨b, 1, none⟩ = some (.slice pa 2 pc) ∧ IsTs w' (some ⟨b, 0, none⟩) [h1T] ∧ Below w.heap.size w w' := by
  refine (dread_any ⟨#[39, 97, 39, 44, 49, 44, 78, 85, 76, 76, 10]⟩ (by decide) w hE).mono ?_
  intro e w' h
  have hr : readS ((⟨#[39, 97, 39, 44, 49, 44, 78, 85, 76, 76, 10]⟩ : ByteArray).data.toList.length + 1) (⟨#[39, 97, 39, 44, 49, 44, 78, 85, 76, 76, 10]⟩ : ByteArray).data.toList 0 = .ok [h1T] := h1_read
  unfold DRead at h
  rw [hr] at h
  obtain ⟨v, xs, rfl, hown, htr, hb⟩ := h
  obtain ⟨a, c, rfl, -, -, hc⟩ := own_form hown
  have hts := own_ts hown htr
  obtain ⟨x0, u, x1, hu⟩ := htr.2.2 0 h1T rfl
  obtain ⟨pa, pc, rfl, -⟩ := own_form hu
  rcases hc with h0 | ⟨b, rfl, hc⟩
  · simp at h0
  · exact ⟨b, c, pa, pc, rfl, hc _ _ x0, hc _ _ x1, hts, hb⟩
theorem head_read2 (w : World) (hE : Env w) : Calls Tryd.prog 7 #[.string ⟨#[39, 97, 39]⟩] w (Ret w (.tuple #[.slice none 0 0, .int .i64 0, .int .i64 410])) := by
  refine (dread_any ⟨#[39, 97, 39]⟩ (by decide) w hE).mono ?_
  intro e w' h
  have hr : readS ((⟨#[39, 97, 39]⟩ : ByteArray).data.toList.length + 1) (⟨#[39, 97, 39]⟩ : ByteArray).data.toList 0 = .error 0 := h2_read
  unfold DRead at h
  rw [hr] at h
  exact h

set_option maxRecDepth 100000 in
set_option maxHeartbeats 1000000 in
theorem head31_any (w : World) (hE : Env w) : Calls Tryd.prog 4 #[] w (Ret w (.bool true)) := by
  have HE := Lib.hid hE
  clear hE
  have HT := Lib.hid (fun b c w' hE h => Text_any (some ⟨b, 0, none⟩) 1 c [h1T] rfl (by decide) (by intro t ht; simp at ht; subst ht; exact h1_fit) w' hE h)
  rw [h1_text.1, h1_text.2] at HT
  go_enter Tryd.func4, Tryd.ntmps4
  go_wp2_with (first
    | (go_at_call 7; (with_reducible refine (head_read1 _ ?_).mono ?_); exact HE.out; rintro e w1 ⟨b, c, pa, pc, rfl, c0, c1, hts, hb1⟩; have HTs := Lib.hid hts)
    | (go_at_call 7; (with_reducible refine (head_read2 _ ?_).mono ?_); exact HE.out.below hb1; rintro e w2 ⟨rfl, hb2⟩; have d0 := (hb2.cell (lt_of_cell c0)).trans c0; have d1 := (hb2.cell (lt_of_cell c1)).trans c1; have HB2 := Lib.hid (hb1.trans (hb2.mono hb1.size)))
    | (go_at_call 5; refine (HT.out b c _ (HE.out.below HB2.out) (HTs.out.below hb2)).mono ?_; rintro e w3 ⟨rfl, hb3⟩; have e0 := (hb3.cell (lt_of_cell d0)).trans d0; have e1 := (hb3.cell (lt_of_cell d1)).trans d1))
  go_ret
  exact ⟨rfl, HB2.out.trans (hb3.mono HB2.out.size)⟩

end Go.Proofs.YtkkildkleleppaaDoor
