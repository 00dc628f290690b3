/- The document's values. The document's words: kinds, slots, commands of a word alone, of a word with a number. -/
import Derived.Test.YtkkildkleleppaaGreatDoorJ21
import Derived.Test.YtkkildkleleppaaGreatDoorJ38
import Derived.Test.YtkkildkleleppaaGreatDoorJ24
import Derived.Test.YtkkildkleleppaaGreatDoorJ30
namespace Go.Proofs.YtkkildkleleppaaGreatDoor
open Go.RowKit

/-- The values of literals, or none. -/
def RLitsE (w : World) (o : Option (List V)) (e : Ending) (w' : World) : Prop :=
  match o with
  | none => e = .returned (.tuple #[.slice none 0 0, .bool false]) ∧ Below w.heap.size w w'
  | some vs => ∃ v, e = .returned (.tuple #[v, .bool true]) ∧ w'.ownsRow w.heap.size 80 3 v vs.length (vcells vs) ∧ Below w.heap.size w w'

set_option maxRecDepth 100000 in
set_option maxHeartbeats 4000000 in
theorem rvalues_any (s : ByteArray) (hs : s.size ≤ 100000000) (w : World) :
    Calls Tryz.prog 105 #[.string s] w (RLitsE w (readVs (splitC false [] s.data.toList))) := by
  have H0 : Hid (LX s.data.toList false 0 0 []) := Lib.hid (.inl ⟨by omega, by omega, LE.start _⟩)
  go_enter Tryz.func105, Tryz.ntmps105
  go_wp2
  go_loopw [4, 5, 6, 7, 8, 9] (fun out iq f i _ _ wr => ∃ (k fr : Nat) (q : Bool) (vs : List V), i = .int .i64 k ∧ f = .int .i64 fr ∧ iq = .bool q ∧ vs.length ≤ k ∧ wr.ownsRow w.heap.size 80 3 out vs.length (vcells vs) ∧ Below w.heap.size w wr ∧ Hid (LX s.data.toList q fr k vs)) (fun _ _ _ i _ _ _ => s.size + 1 - (intOf i).toNat)
  case atStart => exact ⟨0, 0, false, [], rfl, rfl, rfl, by simp, World.ownsRow_nil _ _ _ _, Below.refl _ _, H0⟩
  case round =>
    obtain ⟨k, fr, q, vs, rfl, rfl, rfl, hvl, hown, hb, HX⟩ := hrel
    have i0 : (0 : Int) ≤ (fr : Int) := Int.natCast_nonneg _
    by_cases hlt : k < s.size
    · have hkl : k < s.data.toList.length := hlt
      obtain ⟨hk, hfk, hle⟩ : k ≤ s.data.toList.length ∧ fr ≤ k ∧ LE s.data.toList q fr k vs := by
        rcases HX.out with h | ⟨h, -⟩
        · exact h
        · rw [size_len] at h; omega
      have hg : s.data.toList[k] = s[k] := rfl
      have HL := Lib.hid hle
      clear hle hk HX
      have i1 : (fr : Int) ≤ (k : Int) := by omega
      have i2 : (k : Int) ≤ (s.size : Int) := by omega
      have i3 : (k : Int) < (s.size : Int) := by omega
      have i4 : ((k : Int) == (s.size : Int)) = false := by rw [beq_eq_false_iff_ne]; omega
      by_cases h39 : s[k] = 39
      · have a1 : ((s[k].toNat : Int) == 39) = true := u8_eq h39
        have a2 : ¬ ((s[k].toNat : Int) = 44) := by rw [h39]; decide
        have HX1 : Hid (LX s.data.toList (!q) fr (k + 1) vs) := by
          have h := HL.out.go hfk hkl (by rw [hg, h39]; rintro ⟨h, -⟩; exact absurd h (by decide))
          rw [hg, h39] at h
          exact Lib.hid (.inl ⟨hkl, by omega, h⟩)
        clear h39 hg HL
        go_wp2
        go_roundw
        case rel => exact ⟨k + 1, fr, !q, vs, by go_num, rfl, rfl, by omega, hown, hb, HX1⟩
        case measure => simp [intOf]; omega
      · have a1 : ((s[k].toNat : Int) == 39) = false := u8_ne h39
        have htq : tog q s[k] = q := by simp [tog, h39]
        by_cases h44 : s[k] = 44
        · have a2 : (s[k].toNat : Int) = 44 := by have := u8_eq h44; simpa using this
          cases q with
          | true =>
            have HX1 : Hid (LX s.data.toList true fr (k + 1) vs) := by
              have h := HL.out.go hfk hkl (by rw [hg, htq]; rintro ⟨-, h⟩; cases h)
              rw [hg, htq] at h
              exact Lib.hid (.inl ⟨hkl, by omega, h⟩)
            clear h39 h44 htq hg HL
            go_wp2
            go_roundw
            case rel => exact ⟨k + 1, fr, true, vs, by go_num, rfl, rfl, by omega, hown, hb, HX1⟩
            case measure => simp [intOf]; omega
          | false =>
            have hRd := fun w' => RRead_any (s.extract fr k) (by rw [ByteArray.size_extract]; omega) w'
            unfold RReadO Ret at hRd
            simp only [piece_extract, rread_readV] at hRd
            cases hr : readV (pieceL s.data.toList fr k) with
            | none =>
              have HN : Hid (readVs (splitC false [] s.data.toList) = none) := Lib.hid (HL.out.miss hkl h44 hr)
              simp only [hr, V.val] at hRd
              have HRd := Lib.hid hRd
              clear hRd hr h39 h44 htq hg HL
              go_wp2_with (go_at_call 81; refine (HRd.out _).mono ?_; rintro e w3 ⟨en, hen, rfl, hb3⟩; have hbb := hb.trans (hb3.mono hb.size))
              go_ret2
              rw [HN.out]
              exact ⟨rfl, hbb.alloc hbb.size _⟩
            | some v =>
              have HX1 : Hid (LX s.data.toList false (k + 1) (k + 1) (vs ++ [v])) := Lib.hid (.inl ⟨hkl, by omega, HL.out.hit hkl h44 hr⟩)
              simp only [hr, V.val] at hRd
              have HRd := Lib.hid hRd
              clear hRd hr h39 h44 htq hg HL
              go_wp2_with (first
                | (go_at_call 81; refine (HRd.out _).mono ?_; rintro e w3 ⟨rfl, hb3⟩; have hown3 := own_kept hown hb3; have hbb := hb.trans (hb3.mono hb.size))
                | (at_builtin; refine wpList_pushR2 (w3.alloc (.cells #[.int .i64 (v).k, .int .i64 (v).n, .string (v).s] 80)) 80 _ rfl (.tmp 51) (.tmp 53) _ rfl w.heap.size _ 3 32 Tryz.underlying40 infoV rfl (by decide) (by decide) _ vs.length (vcells vs) rfl (World.ownsRow.alloc hown3 _) (v).cells rfl (vcells_plain _) 1 1 _ (by simp) rfl rfl (by omega) (by have := hbb.size; simp; omega) ?_; intro v6 w6 hown6 hg6))
              have hb6 : Below w.heap.size w w6 := own_next (World.ownsRow.alloc hown3 _) (hbb.alloc hbb.size _) hg6 (by have := hbb.size; simp; omega)
              go_roundw
              case rel => refine ⟨k + 1, k + 1, false, vs ++ [v], by go_num, by go_num, rfl, by simp; omega, by rw [List.length_append, vcells_append]; simpa [vcells] using hown6, hb6, HX1⟩
              case measure => simp [intOf]; omega
        · have a2 : ¬ ((s[k].toNat : Int) = 44) := by have := u8_ne h44; simpa using this
          have HX1 : Hid (LX s.data.toList q fr (k + 1) vs) := by
            have h := HL.out.go hfk hkl (by rw [hg]; rintro ⟨h, -⟩; exact h44 h)
            rw [hg, htq] at h
            exact Lib.hid (.inl ⟨hkl, by omega, h⟩)
          clear h39 h44 htq hg HL
          go_wp2
          go_roundw
          case rel => exact ⟨k + 1, fr, q, vs, by go_num, rfl, rfl, by omega, hown, hb, HX1⟩
          case measure => simp [intOf]; omega
    · by_cases hkn : k = s.size
      · obtain ⟨-, hfk, hle⟩ : k ≤ s.data.toList.length ∧ fr ≤ k ∧ LE s.data.toList q fr k vs := by
          rcases HX.out with h | ⟨h, -⟩
          · exact h
          · rw [size_len] at h; omega
        have HL : Hid (LE s.data.toList q fr s.data.toList.length vs) := by
          apply Lib.hid
          rw [size_len, ← hkn]; exact hle
        clear hle HX
        have i1 : (fr : Int) ≤ (k : Int) := by omega
        have i2 : (k : Int) ≤ (s.size : Int) := by omega
        have i3 : ¬ (k : Int) < (s.size : Int) := by omega
        have i4 : ((k : Int) == (s.size : Int)) = true := by rw [beq_iff_eq]; omega
        have hRd := fun w' => RRead_any (s.extract fr k) (by rw [ByteArray.size_extract]; omega) w'
        unfold RReadO Ret at hRd
        simp only [piece_extract, rread_readV] at hRd
        have hkl : s.data.toList.length = k := by rw [size_len]; omega
        cases hr : readV (pieceL s.data.toList fr k) with
        | none =>
          have HN : Hid (readVs (splitC false [] s.data.toList) = none) := Lib.hid (HL.out.lost (by rw [hkl]; exact hr))
          simp only [hr, V.val] at hRd
          have HRd := Lib.hid hRd
          clear hRd hr HL hkl hkn
          go_wp2_with (go_at_call 81; refine (HRd.out _).mono ?_; rintro e w3 ⟨en, hen, rfl, hb3⟩; have hbb := hb.trans (hb3.mono hb.size))
          go_ret2
          rw [HN.out]
          exact ⟨rfl, hbb.alloc hbb.size _⟩
        | some v =>
          have HX1 : Hid (LX s.data.toList q (k + 1) (k + 1) (vs ++ [v])) := Lib.hid (.inr ⟨by rw [hkl], HL.out.last (by rw [hkl]; exact hr)⟩)
          simp only [hr, V.val] at hRd
          have HRd := Lib.hid hRd
          clear hRd hr HL hkl hkn
          go_wp2_with (first
            | (go_at_call 81; refine (HRd.out _).mono ?_; rintro e w3 ⟨rfl, hb3⟩; have hown3 := own_kept hown hb3; have hbb := hb.trans (hb3.mono hb.size))
            | (at_builtin; refine wpList_pushR2 (w3.alloc (.cells #[.int .i64 (v).k, .int .i64 (v).n, .string (v).s] 80)) 80 _ rfl (.tmp 51) (.tmp 53) _ rfl w.heap.size _ 3 32 Tryz.underlying40 infoV rfl (by decide) (by decide) _ vs.length (vcells vs) rfl (World.ownsRow.alloc hown3 _) (v).cells rfl (vcells_plain _) 1 1 _ (by simp) rfl rfl (by omega) (by have := hbb.size; simp; omega) ?_; intro v6 w6 hown6 hg6))
          have hb6 : Below w.heap.size w w6 := own_next (World.ownsRow.alloc hown3 _) (hbb.alloc hbb.size _) hg6 (by have := hbb.size; simp; omega)
          go_roundw
          case rel => refine ⟨k + 1, k + 1, q, vs ++ [v], by go_num, by go_num, rfl, by simp; omega, by rw [List.length_append, vcells_append]; simpa [vcells] using hown6, hb6, HX1⟩
          case measure => simp [intOf]; omega
      · have HY : Hid (readVs (splitC false [] s.data.toList) = some vs) := by
          rcases HX.out with ⟨h, -⟩ | ⟨-, h⟩
          · rw [size_len] at h; omega
          · exact Lib.hid h
        have i3 : ¬ (k : Int) ≤ (s.size : Int) := by omega
        clear HX hkn
        go_wp2
        go_ret2
        rw [HY.out]
        exact ⟨_, rfl, hown, hb⟩
end Go.Proofs.YtkkildkleleppaaGreatDoor
namespace Go.Proofs.YtkkildkleleppaaGreatDoor
open Go.RowKit


theorem rof_any (ek ec es : Int) (sql : ByteArray) (pa : Option Addr) (pn pc : Nat) (w : World) :
    Calls Tryz.prog 102 #[.agg #[.int .i64 ek, .int .i64 ec, .int .i64 es, .string sql, .slice pa pn pc]] w
      (Ret w (.agg #[.int .i64 1, .int .i64 1, .int .i64 ek, .int .i64 ec, .int .i64 es, .string sql, .slice pa pn pc, .int .i64 0, .bool false, .slice none 0 0, .int .i64 0, .slice none 0 0])) := by
  go_enter Tryz.func102, Tryz.ntmps102
  go_wp2
  refine bodyPost_ret (by simp [results, Tryz.results102, go_sem]; try rfl) rfl ?_
  exact ⟨rfl, by go_grown⟩

/-- An event's word stands for its kind. -/
theorem rkind_some (i : Nat) (hi : i < 9) (w : World) : Calls Tryz.prog 47 #[.string ⟨(verbW i).toArray⟩] w (Ret w (.int .i64 (evKind i))) := by
  obtain rfl | rfl | rfl | rfl | rfl | rfl | rfl | rfl | rfl : i = 0 ∨ i = 1 ∨ i = 2 ∨ i = 3 ∨ i = 4 ∨ i = 5 ∨ i = 6 ∨ i = 7 ∨ i = 8 := by omega
  all_goals
    simp only [verbW, evKind]
    go_enter Tryz.func47, Tryz.ntmps47
    go_wp2
    go_ret
    exact ⟨rfl, Below.refl _ _⟩
theorem rkind_none (wd : List UInt8) (h : ∀ i, i < 9 → wd ≠ verbW i) (w : World) : Calls Tryz.prog 47 #[.string ⟨wd.toArray⟩] w (Ret w (.int .i64 0)) := by
  have x0 : (wd == [111, 112, 101, 110]) = false := by rw [beq_eq_false_iff_ne]; exact h 0 (by omega)
  have x1 : (wd == [99, 108, 111, 115, 101]) = false := by rw [beq_eq_false_iff_ne]; exact h 1 (by omega)
  have x2 : (wd == [101, 120, 101, 99]) = false := by rw [beq_eq_false_iff_ne]; exact h 2 (by omega)
  have x3 : (wd == [99, 97, 108, 108]) = false := by rw [beq_eq_false_iff_ne]; exact h 3 (by omega)
  have x4 : (wd == [112, 114, 101, 112, 97, 114, 101]) = false := by rw [beq_eq_false_iff_ne]; exact h 4 (by omega)
  have x5 : (wd == [98, 105, 110, 100]) = false := by rw [beq_eq_false_iff_ne]; exact h 5 (by omega)
  have x6 : (wd == [115, 116, 101, 112]) = false := by rw [beq_eq_false_iff_ne]; exact h 6 (by omega)
  have x7 : (wd == [114, 101, 115, 101, 116]) = false := by rw [beq_eq_false_iff_ne]; exact h 7 (by omega)
  have x8 : (wd == [102, 105, 110, 97, 108, 105, 122, 101]) = false := by rw [beq_eq_false_iff_ne]; exact h 8 (by omega)
  clear h
  go_enter Tryz.func47, Tryz.ntmps47
  go_wp2
  go_ret
  exact ⟨rfl, Below.refl _ _⟩

/-- Has an event a slot? -/
theorem rslot_some (i : Nat) (hi : i < 9) (w : World) : Calls Tryz.prog 104 #[.int .i64 (evKind i)] w (Ret w (.bool (evSlot i))) := by
  obtain rfl | rfl | rfl | rfl | rfl | rfl | rfl | rfl | rfl : i = 0 ∨ i = 1 ∨ i = 2 ∨ i = 3 ∨ i = 4 ∨ i = 5 ∨ i = 6 ∨ i = 7 ∨ i = 8 := by omega
  all_goals
    simp only [evSlot, evKind]
    go_enter Tryz.func104, Tryz.ntmps104
    go_wp2
    go_ret
    exact ⟨rfl, Below.refl _ _⟩

/-- A word with a number. -/
theorem rcounted_any (ak : Int) (S : ByteArray) (m : Bool) (hs : S.size ≤ 100000000) (w : World) :
    Calls Tryz.prog 49 #[.int .i64 ak, .string S, .bool m] w
      (Ret w (.tuple #[.agg #[.int .i64 1, .int .i64 ak, .int .i64 0, .int .i64 0, .int .i64 0, .string ⟨#[]⟩, .slice none 0 0, .int .i64 ((numO S.data.toList).getD 0), .bool false, .slice none 0 0, .int .i64 0, .slice none 0 0], .bool (m && (numO S.data.toList).isSome)])) := by
  have HN := Lib.hid (fun w' => rnumber_any S hs w')
  generalize (numO S.data.toList).getD 0 = n at HN ⊢
  generalize (numO S.data.toList).isSome = ok at HN ⊢
  obtain ⟨W0, hW0⟩ : ∃ W0, w.alloc (.cells #[.int .i64 0, .int .i64 0, .int .i64 0, .int .i64 0, .int .i64 0, .string ⟨#[]⟩, .slice none 0 0, .int .i64 0, .bool false, .slice none 0 0, .int .i64 0, .slice none 0 0] 47) = W0 := ⟨_, rfl⟩
  have HB0 : Hid (Below w.heap.size w W0) := Lib.hid (by rw [← hW0]; exact below_alloc _ _)
  have HR0 : Hid (CBox W0 w.heap.size) := Lib.hid (by rw [← hW0]; exact Blk.new _ _ _)
  cases m <;> cases ok
  all_goals
    go_enter Tryz.func49, Tryz.ntmps49
    go_wp2_with (go_at_call 103; refine (HN.out _).mono ?_; rintro e w1 ⟨rfl, hb1⟩; have HR1 := Lib.hid (Blk.below HR0.out hb1); obtain ⟨r0, r1, r2, r3, r4, r5, r6, r7, r8, r9, r10, r11⟩ := CBox.cells HR1.out; obtain ⟨g0, g1, g2, g3, g4, g5, g6, g7, g8, g9, g10, g11⟩ := CBox.free HR1.out)
    refine bodyPost_ret (by simp [results, Tryz.results49, go_sem, r0, r1, r2, r3, r4, r5, r6, r7, r8, r9, r10, r11]; try rfl) rfl ?_
    exact ⟨rfl, below_over (HB0.out.trans (hb1.mono HB0.out.size)) ((((((((((((Moved.set w.heap.size 0 _ _).trans (Moved.set w.heap.size 1 _ _)).trans (Moved.set w.heap.size 2 _ _)).trans (Moved.set w.heap.size 3 _ _)).trans (Moved.set w.heap.size 4 _ _)).trans (Moved.set w.heap.size 5 _ _)).trans (Moved.set w.heap.size 6 _ _)).trans (Moved.set w.heap.size 7 _ _)).trans (Moved.set w.heap.size 8 _ _)).trans (Moved.set w.heap.size 9 _ _)).trans (Moved.set w.heap.size 10 _ _)).trans (Moved.set w.heap.size 11 _ _)) (Nat.le_refl _) (Nat.le_refl _)⟩

/-! ### A word alone -/
theorem rplain_none (wd : List UInt8) (h : ∀ i, i = 9 ∨ i = 10 ∨ i = 14 ∨ i = 15 → wd ≠ verbW i) (w : World) :
    Calls Tryz.prog 46 #[.string ⟨wd.toArray⟩] w (Ret w (.tuple #[.agg #[.int .i64 0, .int .i64 0, .int .i64 0, .int .i64 0, .int .i64 0, .string ⟨#[]⟩, .slice none 0 0, .int .i64 0, .bool false, .slice none 0 0, .int .i64 0, .slice none 0 0], .bool false])) := by
  have x0 : (wd == [99, 104, 101, 99, 107, 112, 111, 105, 110, 116]) = false := by rw [beq_eq_false_iff_ne]; exact h 9 (by omega)
  have x1 : (wd == [99, 114, 97, 115, 104]) = false := by rw [beq_eq_false_iff_ne]; exact h 10 (by omega)
  have x2 : (wd == [99, 111, 110, 116, 101, 110, 116]) = false := by rw [beq_eq_false_iff_ne]; exact h 14 (by omega)
  have x3 : (wd == [108, 97, 115, 116]) = false := by rw [beq_eq_false_iff_ne]; exact h 15 (by omega)
  clear h
  go_enter Tryz.func46, Tryz.ntmps46
  go_wp2
  refine bodyPost_ret (by simp [results, Tryz.results46, go_sem]; try rfl) rfl ?_
  exact ⟨rfl, by go_grown⟩
/-- The command of a word alone. -/
def plainC : Nat → C
  | 9 => C.event 9 0 0 ByteArray.empty []
  | 10 => C.act 3 0 false []
  | 14 => C.of 2 0 []
  | _ => C.of 3 0 []
theorem rplain_some (i : Nat) (hi : i = 9 ∨ i = 10 ∨ i = 14 ∨ i = 15) (w : World) :
    Calls Tryz.prog 46 #[.string ⟨(verbW i).toArray⟩] w (Ret w (.tuple #[(plainC i).val (.slice none 0 0) (.slice none 0 0) (.slice none 0 0), .bool true])) := by
  obtain ⟨W0, hW0⟩ : ∃ W0, w.alloc (.cells #[.int .i64 0, .int .i64 0, .int .i64 0, .int .i64 0, .int .i64 0, .string ⟨#[]⟩, .slice none 0 0, .int .i64 0, .bool false, .slice none 0 0, .int .i64 0, .slice none 0 0] 47) = W0 := ⟨_, rfl⟩
  have HB0 : Hid (Below w.heap.size w W0) := Lib.hid (by rw [← hW0]; exact below_alloc _ _)
  have HR0 : Hid (CBox W0 w.heap.size) := Lib.hid (by rw [← hW0]; exact Blk.new _ _ _)
  obtain rfl | rfl | rfl | rfl := hi
  all_goals
    simp only [verbW, plainC, C.event, C.act, C.of, C.val, cmdV]
    go_enter Tryz.func46, Tryz.ntmps46
  · go_wp2_with (go_at_call 102; refine (rof_any _ _ _ _ _ _ _ _).mono ?_; rintro e w1 ⟨rfl, hb1⟩; have HR1 := Lib.hid (Blk.below HR0.out hb1); obtain ⟨r0, r1, r2, r3, r4, r5, r6, r7, r8, r9, r10, r11⟩ := CBox.cells HR1.out; obtain ⟨g0, g1, g2, g3, g4, g5, g6, g7, g8, g9, g10, g11⟩ := CBox.free HR1.out)
    refine bodyPost_ret (by simp [results, Tryz.results46, go_sem, r0, r1, r2, r3, r4, r5, r6, r7, r8, r9, r10, r11]; try rfl) rfl ?_
    exact ⟨rfl, below_over (HB0.out.trans (hb1.mono HB0.out.size)) ((((((((((((Moved.set w.heap.size 0 _ _).trans (Moved.set w.heap.size 1 _ _)).trans (Moved.set w.heap.size 2 _ _)).trans (Moved.set w.heap.size 3 _ _)).trans (Moved.set w.heap.size 4 _ _)).trans (Moved.set w.heap.size 5 _ _)).trans (Moved.set w.heap.size 6 _ _)).trans (Moved.set w.heap.size 7 _ _)).trans (Moved.set w.heap.size 8 _ _)).trans (Moved.set w.heap.size 9 _ _)).trans (Moved.set w.heap.size 10 _ _)).trans (Moved.set w.heap.size 11 _ _)) (Nat.le_refl _) (Nat.le_refl _)⟩
  all_goals
    clear hW0 HB0 HR0
    go_wp2
    refine bodyPost_ret (by simp [results, Tryz.results46, go_sem]; try rfl) rfl ?_
    exact ⟨rfl, by go_grown⟩
end Go.Proofs.YtkkildkleleppaaGreatDoor
