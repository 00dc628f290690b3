/- strings.ReplaceAll, one byte at a time: plain laws. value.Print. -/
import Derived.Test.YtkkildkleleppaaGreatDoorJ02
import Derived.Lib.Replace
import Derived.Test.YtkkildkleleppaaGreatDoorJ03
namespace Go.Proofs.YtkkildkleleppaaGreatDoor
open Go.Lib

theorem index_cons_hit (old : List UInt8) (c : UInt8) (l : List UInt8) (h : old.isPrefixOf (c :: l) = true) : index (c :: l) old = 0 := by simp [index, h]
theorem index_cons_none (old : List UInt8) (c : UInt8) (l : List UInt8) (h : old.isPrefixOf (c :: l) = false) (hi : index l old = -1) : index (c :: l) old = -1 := by simp [index, h, hi]
theorem index_cons_some (old : List UInt8) (c : UInt8) (l : List UInt8) (i : Nat) (h : old.isPrefixOf (c :: l) = false) (hi : index l old = i) : index (c :: l) old = ((i + 1 : Nat) : Int) := by
  have hm : ¬ ((i : Int) == -1) = true := fun e => by have := beq_iff_eq.1 e; omega
  simp only [index, h, hi]
  simp only [Bool.false_eq_true, if_false, if_neg hm]
  omega

/-- All instances replaced, as the library's text does it. -/
def repl (old new s : List UInt8) : List UInt8 := replaceK old new (count s old) s

theorem repl_nil (old new : List UInt8) (h : old ≠ []) : repl old new [] = [] := by
  have hi : index [] old = -1 := by
    cases old with
    | nil => exact absurd rfl h
    | cons _ _ => rfl
  simp [repl, count_miss hi, replaceK]

theorem repl_hit (old new : List UInt8) (c : UInt8) (l : List UInt8) (h0 : old ≠ []) (h : old.isPrefixOf (c :: l) = true) : repl old new (c :: l) = new ++ repl old new ((c :: l).drop old.length) := by
  have hi := index_cons_hit old c l h
  have hc := count_hit (i := 0) h0 hi
  unfold repl
  rw [hc, Nat.add_comm, replaceK_hit old new _ _ 0 hi]
  simp

theorem repl_miss (old new : List UInt8) (c : UInt8) (l : List UInt8) (h0 : old ≠ []) (h : old.isPrefixOf (c :: l) = false) : repl old new (c :: l) = c :: repl old new l := by
  by_cases hn : index l old = -1
  · unfold repl
    rw [count_miss (index_cons_none old c l h hn), count_miss hn]
    rfl
  · have hge := index_ge l old
    obtain ⟨i, hi⟩ : ∃ i : Nat, index l old = i := ⟨(index l old).toNat, by omega⟩
    have hi2 := index_cons_some old c l i h hi
    have hc := count_hit h0 hi
    have hc2 := count_hit h0 hi2
    have hd : (c :: l).drop (i + 1 + old.length) = l.drop (i + old.length) := by
      rw [show i + 1 + old.length = (i + old.length) + 1 by omega]; rfl
    rw [hd] at hc2
    unfold repl
    rw [hc, hc2, Nat.add_comm, replaceK_hit old new _ _ _ hi2, replaceK_hit old new _ _ _ hi, hd]
    simp

theorem replaceAll_repl (s old new : List UInt8) (h : old ≠ new) : replaceAll s old new = repl old new s := by
  have hb : (old == new) = false := beq_eq_false_iff_ne.2 h
  simp [replaceAll, replace, hb, replaceNum, repl]

/-- Each quote twice. -/
theorem repl_dbl (s : List UInt8) : replaceAll s [39] [39, 39] = dbl s := by
  rw [replaceAll_repl _ _ _ (by decide)]
  induction s with
  | nil => exact repl_nil _ _ (by decide)
  | cons c l ih =>
    by_cases hc : c = 39
    · subst hc
      rw [repl_hit _ _ _ _ (by decide) (by simp)]
      simp only [List.length_cons, List.length_nil, Nat.zero_add, List.drop_succ_cons, List.drop_zero, ih]
      simp [dbl, dblOne]
    · have hp : List.isPrefixOf [39] (c :: l) = false := by
        rw [Bool.eq_false_iff]
        intro hh
        simp at hh
        exact hc hh.symm
      rw [repl_miss _ _ _ _ (by decide) hp, ih]
      simp [dbl, dblOne, hc]

/-- Two quotes are one, from the left. -/
def undbl : List UInt8 → List UInt8
  | [] => []
  | [c] => [c]
  | c :: d :: l => if c = 39 ∧ d = 39 then 39 :: undbl l else c :: undbl (d :: l)

theorem repl_undbl : ∀ (n : Nat) (s : List UInt8), s.length ≤ n → repl [39, 39] [39] s = undbl s
  | 0, s, h => by
    have : s = [] := List.eq_nil_of_length_eq_zero (by omega)
    subst this
    exact repl_nil _ _ (by decide)
  | n + 1, [], _ => repl_nil _ _ (by decide)
  | n + 1, [c], _ => by
    have hp : List.isPrefixOf [39, 39] [c] = false := by simp [List.isPrefixOf]
    rw [repl_miss _ _ _ _ (by decide) hp, repl_nil _ _ (by decide)]
    rfl
  | n + 1, c :: d :: l, h => by
    simp only [List.length_cons] at h
    by_cases hc : c = 39 ∧ d = 39
    · obtain ⟨rfl, rfl⟩ := hc
      rw [repl_hit _ _ _ _ (by decide) (by simp)]
      simp only [List.length_cons, List.length_nil, Nat.zero_add, List.drop_succ_cons, List.drop_zero]
      rw [repl_undbl n l (by omega)]
      simp [undbl]
    · have hp : List.isPrefixOf [39, 39] (c :: d :: l) = false := by
        rw [Bool.eq_false_iff]
        intro hh
        simp at hh
        exact hc ⟨hh.1.symm, hh.2.symm⟩
      rw [repl_miss _ _ _ _ (by decide) hp, repl_undbl n (d :: l) (by simp; omega)]
      simp [undbl, hc]

theorem replaceAll_undbl (s : List UInt8) : replaceAll s [39, 39] [39] = undbl s := by
  rw [replaceAll_repl _ _ _ (by decide)]
  exact repl_undbl s.length s (Nat.le_refl _)

end Go.Proofs.YtkkildkleleppaaGreatDoor
namespace Go.Proofs.YtkkildkleleppaaGreatDoor
open Go.RowKit
set_option maxHeartbeats 1000000 in
theorem Print_blob (s : ByteArray) (hs : s.size ≤ 400) (w : World) :
    Calls Tryz.prog 28 #[(V.mk 3 0 s).val] w (Ret w (.tuple #[.string ⟨(blobbed s.data.toList).toArray⟩, .int .i64 0])) := by
  have HM := Lib.hid (may3 s hs)
  simp only [V.val]
  go_enter Tryz.func28, Tryz.ntmps28
  go_wp2_with (first
    | (go_at_call 66; refine (May_any ⟨3, 0, s⟩ _).mono ?_; rw [HM.out]; rintro e w1 ⟨rfl, hb1⟩; have c0 := bcell hb1; have hz1 : w.heap.size + 1 ≤ w1.heap.size := by have := hb1.size; simpa using this)
    | (go_at_call 26; refine (WriteString_any w1.heap.size w1.heap.size [] _ _ (IsB.fresh w1) (by simp [ByteArray.size]) (by simp)).mono ?_; rintro e w2 ⟨rfl, hB2, hb2, hk2⟩; have hbx : Below (w.heap.size + 1) (w.alloc (.cells #[.int .i64 3, .int .i64 0, .string s] 80)) w2 := ((hb1.mono (by simp)).alloc hz1 _).trans (hb2.mono hz1); have q2 : w2.cell? ⟨w.heap.size, 2, none⟩ = some (.string s) := box_cell hbx 2))
  clear hk2 c0 hb1 q2
  go_loopw [5, 29] (fun _ i wr => ∃ k : Nat, k ≤ s.size ∧ i = .int .i64 k ∧ IsB wr w1.heap.size w1.heap.size (120 :: 39 :: hexs (s.data.toList.take k)) ∧
      Below (w.heap.size + 1) (w.alloc (.cells #[.int .i64 3, .int .i64 0, .string s] 80)) wr ∧ w1.heap.size ≤ wr.heap.size) (fun _ i _ => s.size - (intOf i).toNat)
  case atStart => exact ⟨0, Nat.zero_le _, rfl, hB2, hbx, by have := hb2.size; simp at this; omega⟩
  case round =>
    obtain ⟨k, hk, rfl, hB, hb, hz⟩ := hrel
    have q2 : wr.cell? ⟨w.heap.size, 2, none⟩ = some (.string s) := box_cell hb 2
    have hlen := hexs_len (s.data.toList.take k)
    have hlk := take_len s k
    have HL := Lib.hid hlen
    clear hlen
    by_cases hlt : k < s.size
    · have HT := Lib.hid (hexs_take s k hlt)
      have hc := UInt8.toNat_lt s[k]
      go_wp2_with fail
      refine (WriteByte_any _ _ _ _ _ hB (by have := HL.out; simp; omega) hz).mono ?_
      rintro e w3 ⟨rfl, hB3, hb3, hk3⟩
      rw [hexStr_get _ (by omega)] at hB3
      have hbx3 := hb.trans (hb3.mono hz1)
      have q3 : w3.cell? ⟨w.heap.size, 2, none⟩ = some (.string s) := box_cell hbx3 2
      have hz3 := Nat.le_trans hz hb3.size
      clear hk3 q2
      go_wp2_with fail
      refine (WriteByte_any _ _ _ _ _ hB3 (by have := HL.out; simp; omega) hz3).mono ?_
      rintro e w4 ⟨rfl, hB4, hb4, hk4⟩
      rw [hexStr_get _ (by omega)] at hB4
      have hbx4 := hbx3.trans (hb4.mono hz1)
      clear hk4 q3
      go_wp2_with fail
      go_roundw
      case rel =>
        refine ⟨k + 1, by omega, by go_num, ?_, hbx4, Nat.le_trans hz3 hb4.size⟩
        have e : 120 :: 39 :: hexs (s.data.toList.take (k + 1)) = 120 :: 39 :: hexs (s.data.toList.take k) ++ [hexd (s[k].toNat / 16)] ++ [hexd (s[k].toNat % 16)] := by
          rw [HT.out]; simp [hexOne]
        rw [e]
        exact hB4
      case measure => simp [intOf]; omega
    · have hkn : k = s.size := by omega
      have hall : s.data.toList.take k = s.data.toList := by rw [hkn]; exact take_all s
      rw [hall] at hB
      have HK := Lib.hid hkn
      clear hkn hall
      have hlen2 := hexs_len s.data.toList
      rw [size_len] at hlen2
      have HL2 := Lib.hid hlen2
      clear hlen2
      go_wp2_with fail
      refine (WriteByte_any _ _ _ 39 _ hB (by have := HL2.out; simp; omega) hz).mono ?_
      rintro e w3 ⟨rfl, hB3, hb3, hk3⟩
      have hz3 := Nat.le_trans hz hb3.size
      go_wp2_with fail
      refine (BString_any _ _ _ _ hB3 hz3).mono ?_
      rintro e w4 ⟨rfl, hB4, hb4, hk4⟩
      go_wp2_with fail
      go_ret2
      exact ⟨rfl, box_below ((hb.trans (hb3.mono hz1)).trans (hb4.mono hz1))⟩

set_option maxHeartbeats 1000000 in
theorem RPrint_bad (v : V) (h : v.may = false) (w : World) :
    Calls Tryz.prog 73 #[v.val] w (Ret w (.tuple #[.string ⟨#[]⟩, .int .i64 2])) := by
  have HM := Lib.hid h
  clear h
  simp only [V.val]
  go_enter Tryz.func73, Tryz.ntmps73
  go_wp2_with (go_at_call 119; refine (RMay_any v _).mono ?_; rw [HM.out]; rintro e w1 ⟨rfl, hb1⟩)
  go_ret2
  exact ⟨rfl, box_below2 hb1⟩

set_option maxHeartbeats 1000000 in
theorem RPrint_null (n : Int) (s : ByteArray) (h : (V.mk 0 n s).may = true) (w : World) :
    Calls Tryz.prog 73 #[(V.mk 0 n s).val] w (Ret w (.tuple #[.string ⟨#[78, 85, 76, 76]⟩, .int .i64 0])) := by
  have HM := Lib.hid h
  clear h
  simp only [V.val]
  go_enter Tryz.func73, Tryz.ntmps73
  go_wp2_with (go_at_call 119; refine (RMay_any (V.mk 0 n s) _).mono ?_; rw [HM.out]; rintro e w1 ⟨rfl, hb1⟩; have c0 := bcell hb1)
  go_ret2
  exact ⟨rfl, box_below2 hb1⟩

set_option maxHeartbeats 1000000 in
theorem RPrint_int (n : Int) (s : ByteArray) (h : (V.mk 1 n s).may = true) (h0 : -9223372036854775808 ≤ n) (h1 : n ≤ 9223372036854775807) (w : World) (hE : Env w) :
    Calls Tryz.prog 73 #[(V.mk 1 n s).val] w (Ret w (.tuple #[.string ⟨(Lib.itoa n).toArray⟩, .int .i64 0])) := by
  have HM := Lib.hid h
  have HE := Lib.hid hE
  have HF := Lib.hid (And.intro h0 h1)
  clear h hE h0 h1
  simp only [V.val]
  go_enter Tryz.func73, Tryz.ntmps73
  go_wp2_with (first
    | (go_at_call 119; refine (RMay_any (V.mk 1 n s) _).mono ?_; rw [HM.out]; rintro e w1 ⟨rfl, hb1⟩; have c0 := bcell hb1)
    | (go_at_call 69; refine (FormatInt_any n HF.out.1 HF.out.2 _ (HE.out.below (box_below2 hb1))).mono ?_; rintro e w2 ⟨rfl, hb2⟩))
  go_ret2
  exact ⟨rfl, (box_below2 hb1).trans (hb2.mono (box_below2 hb1).size)⟩

set_option maxHeartbeats 1000000 in
theorem Print_bad (v : V) (h : v.may = false) (w : World) :
    Calls Tryz.prog 28 #[v.val] w (Ret w (.tuple #[.string ⟨#[]⟩, .int .i64 2])) := by
  have HM := Lib.hid h
  clear h
  simp only [V.val]
  go_enter Tryz.func28, Tryz.ntmps28
  go_wp2_with (go_at_call 66; refine (May_any v _).mono ?_; rw [HM.out]; rintro e w1 ⟨rfl, hb1⟩)
  go_ret2
  exact ⟨rfl, box_below2 hb1⟩

set_option maxHeartbeats 1000000 in
theorem Print_null (n : Int) (s : ByteArray) (h : (V.mk 0 n s).may = true) (w : World) :
    Calls Tryz.prog 28 #[(V.mk 0 n s).val] w (Ret w (.tuple #[.string ⟨#[78, 85, 76, 76]⟩, .int .i64 0])) := by
  have HM := Lib.hid h
  clear h
  simp only [V.val]
  go_enter Tryz.func28, Tryz.ntmps28
  go_wp2_with (go_at_call 66; refine (May_any (V.mk 0 n s) _).mono ?_; rw [HM.out]; rintro e w1 ⟨rfl, hb1⟩; have c0 := bcell hb1)
  go_ret2
  exact ⟨rfl, box_below2 hb1⟩

set_option maxHeartbeats 1000000 in
theorem Print_int (n : Int) (s : ByteArray) (h : (V.mk 1 n s).may = true) (h0 : -9223372036854775808 ≤ n) (h1 : n ≤ 9223372036854775807) (w : World) (hE : Env w) :
    Calls Tryz.prog 28 #[(V.mk 1 n s).val] w (Ret w (.tuple #[.string ⟨(Lib.itoa n).toArray⟩, .int .i64 0])) := by
  have HM := Lib.hid h
  have HE := Lib.hid hE
  have HF := Lib.hid (And.intro h0 h1)
  clear h hE h0 h1
  simp only [V.val]
  go_enter Tryz.func28, Tryz.ntmps28
  go_wp2_with (first
    | (go_at_call 66; refine (May_any (V.mk 1 n s) _).mono ?_; rw [HM.out]; rintro e w1 ⟨rfl, hb1⟩; have c0 := bcell hb1)
    | (go_at_call 69; refine (FormatInt_any n HF.out.1 HF.out.2 _ (HE.out.below (box_below2 hb1))).mono ?_; rintro e w2 ⟨rfl, hb2⟩))
  go_ret2
  exact ⟨rfl, (box_below2 hb1).trans (hb2.mono (box_below2 hb1).size)⟩


theorem quote_cat (l : List UInt8) : (ByteArray.mk #[39] ++ ByteArray.mk (dbl l).toArray) ++ ByteArray.mk #[39] = ByteArray.mk (quoted l).toArray := by
  apply Go.WideShapes.bytes_inj
  simp [quoted]

theorem Dbl_any (s : ByteArray) (hs : s.size ≤ 16777216) (w : World) (hE : Env w) :
    Calls Tryz.prog 70 #[.string s, .string ⟨#[39]⟩, .string ⟨#[39, 39]⟩] w (Ret w (.string ⟨(dbl s.data.toList).toArray⟩)) := by
  have h := ReplaceAll_any s ⟨#[39]⟩ ⟨#[39, 39]⟩ w hE (by omega) (by simp [ByteArray.size]) (by have := Lib.count_le s.data.toList [39]; rw [size_len] at this; simp only [Lib.countB, ByteArray.size]; simp; omega)
  rw [show (ByteArray.mk #[39]).data.toList = [39] from rfl, show (ByteArray.mk #[39, 39]).data.toList = [39, 39] from rfl, repl_dbl] at h
  exact h

set_option maxHeartbeats 1000000 in
theorem Print_text (s : ByteArray) (hs : s.size ≤ 400) (w : World) (hE : Env w) :
    Calls Tryz.prog 28 #[(V.mk 2 0 s).val] w (Ret w (.tuple #[.string ⟨(quoted s.data.toList).toArray⟩, .int .i64 0])) := by
  have HM := Lib.hid (may2 s hs)
  have HE := Lib.hid hE
  have hl := dbl_len s.data.toList
  rw [size_len] at hl
  clear hE
  simp only [V.val]
  go_enter Tryz.func28, Tryz.ntmps28
  go_wp2_with (first
    | (go_at_call 66; refine (May_any ⟨2, 0, s⟩ _).mono ?_; rw [HM.out]; rintro e w1 ⟨rfl, hb1⟩; have c0 := bcell hb1)
    | (go_at_call 70; refine (Dbl_any s (by omega) _ (HE.out.below (box_below2 hb1))).mono ?_; rintro e w2 ⟨rfl, hb2⟩))
  go_ret2
  refine ⟨?_, (box_below2 hb1).trans (hb2.mono (box_below2 hb1).size)⟩
  rw [← quote_cat]; rfl

theorem may_cases (v : V) (h : v.may = true) : v.k = 0 ∨ v.k = 1 ∨ (v.k = 2 ∧ v.n = 0 ∧ v.s.size ≤ 400) ∨ (v.k = 3 ∧ v.n = 0 ∧ v.s.size ≤ 400) := by
  simp only [V.may, mayB] at h
  split at h
  · exact .inl ‹_›
  · split at h
    · exact .inr (.inl ‹_›)
    · split at h
      · simp only [Bool.and_eq_true, decide_eq_true_eq, size_len] at h
        rename_i hk
        rcases hk with hk | hk
        · exact .inr (.inr (.inl ⟨hk, h⟩))
        · exact .inr (.inr (.inr ⟨hk, h⟩))
      · cases h

theorem RPrint_any (v : V) (hf : v.fit) (w : World) (hE : Env w) :
    Calls Tryz.prog 73 #[v.val] w (Ret w (.tuple #[.string ⟨v.lit.toArray⟩, .int .i64 v.litE])) := by
  cases hm : v.may with
  | false =>
    have h := RPrint_bad v hm w
    simpa [V.lit, V.litE, hm] using h
  | true =>
    obtain ⟨k, n, s⟩ := v
    rcases may_cases _ hm with h | h | ⟨h, h2, h3⟩ | ⟨h, h2, h3⟩
    · simp only at h; subst h
      have h := RPrint_null n s hm w
      simpa [V.lit, V.litE, hm] using h
    · simp only at h; subst h
      have h := RPrint_int n s hm hf.1 hf.2 w hE
      simpa [V.lit, V.litE, hm] using h
    · simp only at h h2 h3; subst h; subst h2
      have h := RPrint_text s h3 w 
      simpa [V.lit, V.litE, hm] using h
    · simp only at h h2 h3; subst h; subst h2
      have h := RPrint_blob s h3 w
      simpa [V.lit, V.litE, hm] using h

theorem Print_any (v : V) (hf : v.fit) (w : World) (hE : Env w) :
    Calls Tryz.prog 28 #[v.val] w (Ret w (.tuple #[.string ⟨v.lit.toArray⟩, .int .i64 v.litE])) := by
  cases hm : v.may with
  | false =>
    have h := Print_bad v hm w
    simpa [V.lit, V.litE, hm] using h
  | true =>
    obtain ⟨k, n, s⟩ := v
    rcases may_cases _ hm with h | h | ⟨h, h2, h3⟩ | ⟨h, h2, h3⟩
    · simp only at h; subst h
      have h := Print_null n s hm w
      simpa [V.lit, V.litE, hm] using h
    · simp only at h; subst h
      have h := Print_int n s hm hf.1 hf.2 w hE
      simpa [V.lit, V.litE, hm] using h
    · simp only at h h2 h3; subst h; subst h2
      have h := Print_text s h3 w hE
      simpa [V.lit, V.litE, hm] using h
    · simp only at h h2 h3; subst h; subst h2
      have h := Print_blob s h3 w
      simpa [V.lit, V.litE, hm] using h


end Go.Proofs.YtkkildkleleppaaGreatDoor
