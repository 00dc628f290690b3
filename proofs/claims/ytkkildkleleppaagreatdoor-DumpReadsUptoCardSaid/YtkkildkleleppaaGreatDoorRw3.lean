/- The document's reader, walked: Cuts. -/
import Derived.Test.YtkkildkleleppaaGreatDoorRw2
namespace Go.Proofs.YtkkildkleleppaaGreatDoor
open Go.RowKit

/-- Texts as cells. -/
def scells (l : List (List UInt8)) : List Value := l.map fun x => .string ⟨x.toArray⟩
theorem scells_append (a b : List (List UInt8)) : scells (a ++ b) = scells a ++ scells b := by simp [scells]
theorem scells_at (l : List (List UInt8)) (i : Nat) (h : i < l.length) : (scells l)[i]? = some (.string ⟨l[i].toArray⟩) := by simp [scells, List.getElem?_eq_getElem h]
theorem ext_arr (s : ByteArray) (f k : Nat) : s.extract f k = ⟨(pieceL s.data.toList f k).toArray⟩ := by
  have h : (s.extract f k).data.toList = pieceL s.data.toList f k := by rw [extract_list]; rfl
  rw [← h]
theorem pieceL_self (l : List UInt8) (f : Nat) : pieceL l f f = [] := by
  unfold pieceL
  exact List.drop_of_length_le (by rw [List.length_take]; omega)
theorem pieceL_snoc (s : ByteArray) (f k : Nat) (h : k < s.size) (hf : f ≤ k) : pieceL s.data.toList f (k + 1) = pieceL s.data.toList f k ++ [s[k]] := by
  unfold pieceL
  rw [take_snoc s k h, List.drop_append_of_le_length (by rw [List.length_take, size_len]; omega)]
theorem cutsL_push {q : Bool} {acc r : List UInt8} {c : UInt8} (h : tog q c = false) (h2 : c = 44 ∨ r = []) : cutsL q acc (c :: r) = acc :: cutsL false [] r := by
  rw [cutsL, if_pos ⟨h, h2⟩, h]
theorem cutsL_go {q : Bool} {acc r : List UInt8} {c : UInt8} (h : tog q c = true ∨ (c ≠ 44 ∧ r ≠ [])) : cutsL q acc (c :: r) = cutsL (tog q c) (acc ++ [c]) r := by
  rw [cutsL, if_neg]
  rintro ⟨h1, h2⟩
  rcases h with h | h
  · rw [h] at h1; cases h1
  · rcases h2 with h2 | h2
    · exact h.1 h2
    · exact h.2 h2
theorem tog_q (b : Bool) {c : UInt8} (h : c = 39) : tog b c = !b := by simp [tog, h]
theorem tog_o (b : Bool) {c : UInt8} (h : c ≠ 39) : tog b c = b := by simp [tog, h]

def CutsEnd (l : List UInt8) (w : World) (e : Ending) (w' : World) : Prop := ∃ v, e = .returned v ∧ w'.ownsRow w.heap.size 9 1 v (cutsL false [] l).length (scells (cutsL false [] l)) ∧ Below w.heap.size w w'


set_option maxRecDepth 100000 in
set_option maxHeartbeats 2000000 in
theorem Cuts_any (s : ByteArray) (hs : s.size ≤ 100000000) (w : World) : Calls Tryz.prog 79 #[.string s] w (CutsEnd s.data.toList w) := by
  go_enter Tryz.func79, Tryz.ntmps79
  go_wp2
  go_loopw [3, 4, 5, 6] (fun out q fr i wr => ∃ (k f : Nat) (b : Bool) (cs : List (List UInt8)), k ≤ s.size ∧ f ≤ k ∧ i = .int .i64 k ∧ fr = .int .i64 f ∧ q = .bool b ∧ wr.ownsRow w.heap.size 9 1 out cs.length (scells cs) ∧ Below w.heap.size w wr ∧ cs.length ≤ k ∧
      Hid (cutsL false [] s.data.toList = cs ++ cutsL b (pieceL s.data.toList f k) (s.data.toList.drop k))) (fun _ _ _ i _ => s.size - (intOf i).toNat)
  case atStart => exact ⟨0, 0, false, [], by omega, by omega, rfl, rfl, rfl, World.ownsRow_nil _ _ _ _, Below.refl _ _, by simp, Lib.hid (by simp [pieceL])⟩
  case round =>
    obtain ⟨k, f, b, cs, hk, hfk, rfl, rfl, rfl, hown, hb, hel, HK⟩ := hrel
    by_cases hlt : k < s.size
    · have HD := Lib.hid (drop_one s k hlt)
      have HP := Lib.hid (pieceL_snoc s f k hlt hfk)
      have i0 : (0 : Int) ≤ (f : Int) := Int.natCast_nonneg _
      have i1 : (f : Int) ≤ (k : Int) := by omega
      have i2 : (k : Int) < (s.size : Int) := by omega
      have HS : Hid (pieceL s.data.toList (k + 1) (k + 1) = []) := Lib.hid (pieceL_self _ _)
      have hend : k + 1 = s.size → s.data.toList.drop (k + 1) = [] := fun h => List.drop_of_length_le (by rw [size_len]; omega)
      have hmid : ¬ k + 1 = s.size → s.data.toList.drop (k + 1) ≠ [] := fun h e => by have := congrArg List.length e; rw [List.length_drop, size_len] at this; simp at this; omega
      by_cases h39 : s[k] = 39
      · have hq : ((s[k].toNat : Int) == 39) = true := u8_eq h39
        have hq2 : ((s[k].toNat : Int) == 44) = false := by rw [h39]; rfl
        have h44 : s[k] ≠ 44 := by rw [h39]; decide
        cases b with
        | false =>
          have HX : Hid (cutsL false [] s.data.toList = cs ++ cutsL true (pieceL s.data.toList f (k + 1)) (s.data.toList.drop (k + 1))) := Lib.hid (by rw [HK.out, HD.out, cutsL_go (.inl (tog_q _ h39)), HP.out, tog_q _ h39]; try rfl)
          clear h39 h44 hend hmid
          go_wp2
          go_roundw
          case rel => exact ⟨k + 1, f, true, cs, by omega, by omega, by go_num, rfl, rfl, hown, hb, by omega, HX⟩
          case measure => simp [intOf]; omega
        | true =>
          by_cases hl : k + 1 = s.size
          · have hq3 : ((k : Int) == (s.size : Int) - 1) = true := by simp; omega
            have HX : Hid (cutsL false [] s.data.toList = (cs ++ [pieceL s.data.toList f k]) ++ cutsL false (pieceL s.data.toList (k + 1) (k + 1)) (s.data.toList.drop (k + 1))) := Lib.hid (by
              rw [HK.out, HD.out, cutsL_push (tog_q _ h39) (.inr (hend hl)), HS.out]; simp)
            clear h39 h44 hl hend hmid
            go_wp2_with (at_builtin; refine wpList_pushR wr 9 _ rfl (.tmp 34) (.tmp 39) _ rfl w.heap.size _ 1 16 Tryz.underlying57 infoS rfl (by decide) (by decide) _ cs.length (scells cs) rfl hown [.string (s.extract f k)] rfl (by intro u hu; simp at hu; subst hu; rfl) 1 1 rfl rfl (by omega) hb.size ?_; intro v3 w3 hown3 hg3)
            go_roundw
            case rel => exact ⟨k + 1, k + 1, false, cs ++ [pieceL s.data.toList f k], by omega, by omega, by go_num, by go_num, rfl, by rw [scells_append, List.length_append]; rw [ext_arr] at hown3; exact hown3, own_next hown hb hg3 hb.size, by simp; omega, HX⟩
            case measure => simp [intOf]; omega
          · have hq3 : ((k : Int) == (s.size : Int) - 1) = false := by simp; omega
            have HX : Hid (cutsL false [] s.data.toList = cs ++ cutsL false (pieceL s.data.toList f (k + 1)) (s.data.toList.drop (k + 1))) := Lib.hid (by rw [HK.out, HD.out, cutsL_go (.inr ⟨h44, hmid hl⟩), HP.out, tog_q _ h39]; try rfl)
            clear h39 h44 hl hend hmid
            go_wp2
            go_roundw
            case rel => exact ⟨k + 1, f, false, cs, by omega, by omega, by go_num, rfl, rfl, hown, hb, by omega, HX⟩
            case measure => simp [intOf]; omega
      · have hq : ((s[k].toNat : Int) == 39) = false := u8_ne h39
        cases b with
        | true =>
          have HX : Hid (cutsL false [] s.data.toList = cs ++ cutsL true (pieceL s.data.toList f (k + 1)) (s.data.toList.drop (k + 1))) := Lib.hid (by rw [HK.out, HD.out, cutsL_go (.inl (tog_o _ h39)), HP.out, tog_o _ h39]; try rfl)
          clear h39 hend hmid
          go_wp2
          go_roundw
          case rel => exact ⟨k + 1, f, true, cs, by omega, by omega, by go_num, rfl, rfl, hown, hb, by omega, HX⟩
          case measure => simp [intOf]; omega
        | false =>
          by_cases h44 : s[k] = 44
          · have hq2 : ((s[k].toNat : Int) == 44) = true := u8_eq h44
            have HX : Hid (cutsL false [] s.data.toList = (cs ++ [pieceL s.data.toList f k]) ++ cutsL false (pieceL s.data.toList (k + 1) (k + 1)) (s.data.toList.drop (k + 1))) := Lib.hid (by
              rw [HK.out, HD.out, cutsL_push (tog_o _ h39) (.inl h44), HS.out]; simp)
            clear h39 h44 hend hmid
            go_wp2_with (at_builtin; refine wpList_pushR wr 9 _ rfl (.tmp 34) (.tmp 39) _ rfl w.heap.size _ 1 16 Tryz.underlying57 infoS rfl (by decide) (by decide) _ cs.length (scells cs) rfl hown [.string (s.extract f k)] rfl (by intro u hu; simp at hu; subst hu; rfl) 1 1 rfl rfl (by omega) hb.size ?_; intro v3 w3 hown3 hg3)
            go_roundw
            case rel => exact ⟨k + 1, k + 1, false, cs ++ [pieceL s.data.toList f k], by omega, by omega, by go_num, by go_num, rfl, by rw [scells_append, List.length_append]; rw [ext_arr] at hown3; exact hown3, own_next hown hb hg3 hb.size, by simp; omega, HX⟩
            case measure => simp [intOf]; omega
          · have hq2 : ((s[k].toNat : Int) == 44) = false := u8_ne h44
            by_cases hl : k + 1 = s.size
            · have hq3 : ((k : Int) == (s.size : Int) - 1) = true := by simp; omega
              have HX : Hid (cutsL false [] s.data.toList = (cs ++ [pieceL s.data.toList f k]) ++ cutsL false (pieceL s.data.toList (k + 1) (k + 1)) (s.data.toList.drop (k + 1))) := Lib.hid (by
                rw [HK.out, HD.out, cutsL_push (tog_o _ h39) (.inr (hend hl)), HS.out]; simp)
              clear h39 h44 hl hend hmid
              go_wp2_with (at_builtin; refine wpList_pushR wr 9 _ rfl (.tmp 34) (.tmp 39) _ rfl w.heap.size _ 1 16 Tryz.underlying57 infoS rfl (by decide) (by decide) _ cs.length (scells cs) rfl hown [.string (s.extract f k)] rfl (by intro u hu; simp at hu; subst hu; rfl) 1 1 rfl rfl (by omega) hb.size ?_; intro v3 w3 hown3 hg3)
              go_roundw
              case rel => exact ⟨k + 1, k + 1, false, cs ++ [pieceL s.data.toList f k], by omega, by omega, by go_num, by go_num, rfl, by rw [scells_append, List.length_append]; rw [ext_arr] at hown3; exact hown3, own_next hown hb hg3 hb.size, by simp; omega, HX⟩
              case measure => simp [intOf]; omega
            · have hq3 : ((k : Int) == (s.size : Int) - 1) = false := by simp; omega
              have HX : Hid (cutsL false [] s.data.toList = cs ++ cutsL false (pieceL s.data.toList f (k + 1)) (s.data.toList.drop (k + 1))) := Lib.hid (by rw [HK.out, HD.out, cutsL_go (.inr ⟨h44, hmid hl⟩), HP.out, tog_o _ h39]; try rfl)
              clear h39 h44 hl hend hmid
              go_wp2
              go_roundw
              case rel => exact ⟨k + 1, f, false, cs, by omega, by omega, by go_num, rfl, rfl, hown, hb, by omega, HX⟩
              case measure => simp [intOf]; omega
    · have HX : Hid (cutsL false [] s.data.toList = cs) := Lib.hid (by rw [HK.out, List.drop_of_length_le (by simp; omega)]; simp [cutsL])
      go_wp2
      go_ret
      refine ⟨_, rfl, ?_, hb⟩
      rw [HX.out]; exact hown
end Go.Proofs.YtkkildkleleppaaGreatDoor
