/- The document's reader, walked: Cuts. The document's reader, walked: Bytes. -/
import Derived.Test.YtkkildkleleppaaGreatDoorJ18
import Derived.Test.YtkkildkleleppaaGreatDoorJ03
import Derived.Test.YtkkildkleleppaaGreatDoorJ15
import Derived.IntWalk
namespace Go.Proofs.YtkkildkleleppaaGreatDoor
open Go.RowKit

/-- Texts as cells. -/
def scells (l : List (List UInt8)) : List Value := l.map fun x => .string ⟨x.toArray⟩
theorem scells_append (a b : List (List UInt8)) : scells (a ++ b) = scells a ++ scells b := by simp [scells]
theorem scells_at (l : List (List UInt8)) (i : Nat) (h : i < l.length) : (scells l)[i]? = some (.string ⟨l[i].toArray⟩) := by simp [scells, List.getElem?_eq_getElem h]
theorem ext_arr (s : ByteArray) (f k : Nat) : s.extract f k = ⟨(pieceL s.data.toList f k).toArray⟩ := by
  have h : (s.extract f k).data.toList = pieceL s.data.toList f k := by rw [extract_list]; rfl
  rw [← h]
theorem pieceL_self (l : List UInt8) (f : Nat) : pieceL l f f = [] := by
  unfold pieceL
  exact List.drop_of_length_le (by rw [List.length_take]; omega)
theorem pieceL_snoc (s : ByteArray) (f k : Nat) (h : k < s.size) (hf : f ≤ k) : pieceL s.data.toList f (k + 1) = pieceL s.data.toList f k ++ [s[k]] := by
  unfold pieceL
  rw [take_snoc s k h, List.drop_append_of_le_length (by rw [List.length_take, size_len]; omega)]
theorem cutsL_push {q : Bool} {acc r : List UInt8} {c : UInt8} (h : tog q c = false) (h2 : c = 44 ∨ r = []) : cutsL q acc (c :: r) = acc :: cutsL false [] r := by
  rw [cutsL, if_pos ⟨h, h2⟩, h]
theorem cutsL_go {q : Bool} {acc r : List UInt8} {c : UInt8} (h : tog q c = true ∨ (c ≠ 44 ∧ r ≠ [])) : cutsL q acc (c :: r) = cutsL (tog q c) (acc ++ [c]) r := by
  rw [cutsL, if_neg]
  rintro ⟨h1, h2⟩
  rcases h with h | h
  · rw [h] at h1; cases h1
  · rcases h2 with h2 | h2
    · exact h.1 h2
    · exact h.2 h2
theorem tog_q (b : Bool) {c : UInt8} (h : c = 39) : tog b c = !b := by simp [tog, h]
theorem tog_o (b : Bool) {c : UInt8} (h : c ≠ 39) : tog b c = b := by simp [tog, h]

def CutsEnd (l : List UInt8) (w : World) (e : Ending) (w' : World) : Prop := ∃ v, e = .returned v ∧ w'.ownsRow w.heap.size 9 1 v (cutsL false [] l).length (scells (cutsL false [] l)) ∧ Below w.heap.size w w'


set_option maxRecDepth 100000 in
set_option maxHeartbeats 2000000 in
theorem Cuts_any (s : ByteArray) (hs : s.size ≤ 100000000) (w : World) : Calls Tryz.prog 79 #[.string s] w (CutsEnd s.data.toList w) := by
  go_enter Tryz.func79, Tryz.ntmps79
  go_wp2
  go_loopw [3, 4, 5, 6] (fun out q fr i wr => ∃ (k f : Nat) (b : Bool) (cs : List (List UInt8)), k ≤ s.size ∧ f ≤ k ∧ i = .int .i64 k ∧ fr = .int .i64 f ∧ q = .bool b ∧ wr.ownsRow w.heap.size 9 1 out cs.length (scells cs) ∧ Below w.heap.size w wr ∧ cs.length ≤ k ∧
      Hid (cutsL false [] s.data.toList = cs ++ cutsL b (pieceL s.data.toList f k) (s.data.toList.drop k))) (fun _ _ _ i _ => s.size - (intOf i).toNat)
  case atStart => exact ⟨0, 0, false, [], by omega, by omega, rfl, rfl, rfl, World.ownsRow_nil _ _ _ _, Below.refl _ _, by simp, Lib.hid (by simp [pieceL])⟩
  case round =>
    obtain ⟨k, f, b, cs, hk, hfk, rfl, rfl, rfl, hown, hb, hel, HK⟩ := hrel
    by_cases hlt : k < s.size
    · have HD := Lib.hid (drop_one s k hlt)
      have HP := Lib.hid (pieceL_snoc s f k hlt hfk)
      have i0 : (0 : Int) ≤ (f : Int) := Int.natCast_nonneg _
      have i1 : (f : Int) ≤ (k : Int) := by omega
      have i2 : (k : Int) < (s.size : Int) := by omega
      have HS : Hid (pieceL s.data.toList (k + 1) (k + 1) = []) := Lib.hid (pieceL_self _ _)
      have hend : k + 1 = s.size → s.data.toList.drop (k + 1) = [] := fun h => List.drop_of_length_le (by rw [size_len]; omega)
      have hmid : ¬ k + 1 = s.size → s.data.toList.drop (k + 1) ≠ [] := fun h e => by have := congrArg List.length e; rw [List.length_drop, size_len] at this; simp at this; omega
      by_cases h39 : s[k] = 39
      · have hq : ((s[k].toNat : Int) == 39) = true := u8_eq h39
        have hq2 : ((s[k].toNat : Int) == 44) = false := by rw [h39]; rfl
        have h44 : s[k] ≠ 44 := by rw [h39]; decide
        cases b with
        | false =>
          have HX : Hid (cutsL false [] s.data.toList = cs ++ cutsL true (pieceL s.data.toList f (k + 1)) (s.data.toList.drop (k + 1))) := Lib.hid (by rw [HK.out, HD.out, cutsL_go (.inl (tog_q _ h39)), HP.out, tog_q _ h39]; try rfl)
          clear h39 h44 hend hmid
          go_wp2
          go_roundw
          case rel => exact ⟨k + 1, f, true, cs, by omega, by omega, by go_num, rfl, rfl, hown, hb, by omega, HX⟩
          case measure => simp [intOf]; omega
        | true =>
          by_cases hl : k + 1 = s.size
          · have hq3 : ((k : Int) == (s.size : Int) - 1) = true := by simp; omega
            have HX : Hid (cutsL false [] s.data.toList = (cs ++ [pieceL s.data.toList f k]) ++ cutsL false (pieceL s.data.toList (k + 1) (k + 1)) (s.data.toList.drop (k + 1))) := Lib.hid (by
              rw [HK.out, HD.out, cutsL_push (tog_q _ h39) (.inr (hend hl)), HS.out]; simp)
            clear h39 h44 hl hend hmid
            go_wp2_with (at_builtin; refine wpList_pushR wr 9 _ rfl (.tmp 34) (.tmp 39) _ rfl w.heap.size _ 1 16 Tryz.underlying57 infoSr rfl (by decide) (by decide) _ cs.length (scells cs) rfl hown [.string (s.extract f k)] rfl (by intro u hu; simp at hu; subst hu; rfl) 1 1 rfl rfl (by omega) hb.size ?_; intro v3 w3 hown3 hg3)
            go_roundw
            case rel => exact ⟨k + 1, k + 1, false, cs ++ [pieceL s.data.toList f k], by omega, by omega, by go_num, by go_num, rfl, by rw [scells_append, List.length_append]; rw [ext_arr] at hown3; exact hown3, own_next hown hb hg3 hb.size, by simp; omega, HX⟩
            case measure => simp [intOf]; omega
          · have hq3 : ((k : Int) == (s.size : Int) - 1) = false := by simp; omega
            have HX : Hid (cutsL false [] s.data.toList = cs ++ cutsL false (pieceL s.data.toList f (k + 1)) (s.data.toList.drop (k + 1))) := Lib.hid (by rw [HK.out, HD.out, cutsL_go (.inr ⟨h44, hmid hl⟩), HP.out, tog_q _ h39]; try rfl)
            clear h39 h44 hl hend hmid
            go_wp2
            go_roundw
            case rel => exact ⟨k + 1, f, false, cs, by omega, by omega, by go_num, rfl, rfl, hown, hb, by omega, HX⟩
            case measure => simp [intOf]; omega
      · have hq : ((s[k].toNat : Int) == 39) = false := u8_ne h39
        cases b with
        | true =>
          have HX : Hid (cutsL false [] s.data.toList = cs ++ cutsL true (pieceL s.data.toList f (k + 1)) (s.data.toList.drop (k + 1))) := Lib.hid (by rw [HK.out, HD.out, cutsL_go (.inl (tog_o _ h39)), HP.out, tog_o _ h39]; try rfl)
          clear h39 hend hmid
          go_wp2
          go_roundw
          case rel => exact ⟨k + 1, f, true, cs, by omega, by omega, by go_num, rfl, rfl, hown, hb, by omega, HX⟩
          case measure => simp [intOf]; omega
        | false =>
          by_cases h44 : s[k] = 44
          · have hq2 : ((s[k].toNat : Int) == 44) = true := u8_eq h44
            have HX : Hid (cutsL false [] s.data.toList = (cs ++ [pieceL s.data.toList f k]) ++ cutsL false (pieceL s.data.toList (k + 1) (k + 1)) (s.data.toList.drop (k + 1))) := Lib.hid (by
              rw [HK.out, HD.out, cutsL_push (tog_o _ h39) (.inl h44), HS.out]; simp)
            clear h39 h44 hend hmid
            go_wp2_with (at_builtin; refine wpList_pushR wr 9 _ rfl (.tmp 34) (.tmp 39) _ rfl w.heap.size _ 1 16 Tryz.underlying57 infoSr rfl (by decide) (by decide) _ cs.length (scells cs) rfl hown [.string (s.extract f k)] rfl (by intro u hu; simp at hu; subst hu; rfl) 1 1 rfl rfl (by omega) hb.size ?_; intro v3 w3 hown3 hg3)
            go_roundw
            case rel => exact ⟨k + 1, k + 1, false, cs ++ [pieceL s.data.toList f k], by omega, by omega, by go_num, by go_num, rfl, by rw [scells_append, List.length_append]; rw [ext_arr] at hown3; exact hown3, own_next hown hb hg3 hb.size, by simp; omega, HX⟩
            case measure => simp [intOf]; omega
          · have hq2 : ((s[k].toNat : Int) == 44) = false := u8_ne h44
            by_cases hl : k + 1 = s.size
            · have hq3 : ((k : Int) == (s.size : Int) - 1) = true := by simp; omega
              have HX : Hid (cutsL false [] s.data.toList = (cs ++ [pieceL s.data.toList f k]) ++ cutsL false (pieceL s.data.toList (k + 1) (k + 1)) (s.data.toList.drop (k + 1))) := Lib.hid (by
                rw [HK.out, HD.out, cutsL_push (tog_o _ h39) (.inr (hend hl)), HS.out]; simp)
              clear h39 h44 hl hend hmid
              go_wp2_with (at_builtin; refine wpList_pushR wr 9 _ rfl (.tmp 34) (.tmp 39) _ rfl w.heap.size _ 1 16 Tryz.underlying57 infoSr rfl (by decide) (by decide) _ cs.length (scells cs) rfl hown [.string (s.extract f k)] rfl (by intro u hu; simp at hu; subst hu; rfl) 1 1 rfl rfl (by omega) hb.size ?_; intro v3 w3 hown3 hg3)
              go_roundw
              case rel => exact ⟨k + 1, k + 1, false, cs ++ [pieceL s.data.toList f k], by omega, by omega, by go_num, by go_num, rfl, by rw [scells_append, List.length_append]; rw [ext_arr] at hown3; exact hown3, own_next hown hb hg3 hb.size, by simp; omega, HX⟩
              case measure => simp [intOf]; omega
            · have hq3 : ((k : Int) == (s.size : Int) - 1) = false := by simp; omega
              have HX : Hid (cutsL false [] s.data.toList = cs ++ cutsL false (pieceL s.data.toList f (k + 1)) (s.data.toList.drop (k + 1))) := Lib.hid (by rw [HK.out, HD.out, cutsL_go (.inr ⟨h44, hmid hl⟩), HP.out, tog_o _ h39]; try rfl)
              clear h39 h44 hl hend hmid
              go_wp2
              go_roundw
              case rel => exact ⟨k + 1, f, false, cs, by omega, by omega, by go_num, rfl, rfl, hown, hb, by omega, HX⟩
              case measure => simp [intOf]; omega
    · have HX : Hid (cutsL false [] s.data.toList = cs) := Lib.hid (by rw [HK.out, List.drop_of_length_le (by simp; omega)]; simp [cutsL])
      go_wp2
      go_ret
      refine ⟨_, rfl, ?_, hb⟩
      rw [HX.out]; exact hown
end Go.Proofs.YtkkildkleleppaaGreatDoor
namespace Go.Proofs.YtkkildkleleppaaGreatDoor
open Go.RowKit

theorem rt_q (r : List UInt8) : rtextL (39 :: 39 :: r) = (rtextL r).map (39 :: ·) := by simp [rtextL]
theorem rt_o {c : UInt8} (h : c ≠ 39) (r : List UInt8) : rtextL (c :: r) = (rtextL r).map (c :: ·) := by
  cases r with
  | nil => simp [rtextL, h]
  | cons d r => simp [rtextL, h]
theorem rt_bad {d : UInt8} (h : d ≠ 39) (r : List UInt8) : rtextL (39 :: d :: r) = none := by simp [rtextL, h]
theorem rt_end : rtextL [39] = none := rfl
theorem map_map_app (o : Option (List UInt8)) (a b : List UInt8) : (o.map (b ++ ·)).map (a ++ ·) = o.map (a ++ b ++ ·) := by cases o <;> simp
theorem map_cons_app (o : Option (List UInt8)) (a : List UInt8) (c : UInt8) : (o.map (c :: ·)).map (a ++ ·) = o.map (a ++ [c] ++ ·) := by cases o <;> simp

/-- The bytes of a literal are told. -/
def BytesEnd (o : Option (List UInt8)) (w : World) (e : Ending) (w' : World) : Prop := ∃ x, Ret w (.tuple #[.string x, .bool o.isSome]) e w' ∧ ∀ y, o = some y → x = ⟨y.toArray⟩
theorem BytesEnd.no {o : Option (List UInt8)} {w w' : World} (h : o = none) (hb : Below w.heap.size w w') : BytesEnd o w (.returned (.tuple #[.string ⟨#[]⟩, .bool false])) w' := by
  subst h; exact ⟨_, ⟨rfl, hb⟩, by intro y hy; cases hy⟩
theorem BytesEnd.yes {o : Option (List UInt8)} {x : List UInt8} {w w' : World} (h : o = some x) (hb : Below w.heap.size w w') : BytesEnd o w (.returned (.tuple #[.string ⟨x.toArray⟩, .bool true])) w' := by
  subst h; exact ⟨_, ⟨rfl, hb⟩, by intro y hy; cases hy; rfl⟩
theorem last_one (s : ByteArray) (k : Nat) (h : k < s.size) (h2 : ¬ k + 1 < s.size) : s.data.toList.drop k = [s[k]] := by
  rw [drop_one s k h, List.drop_of_length_le (by rw [size_len]; omega)]

set_option maxRecDepth 100000 in
set_option maxHeartbeats 2000000 in
theorem Bytes_text (s : ByteArray) (hs : s.size ≤ 100000000) (w : World) : Calls Tryz.prog 80 #[.string s, .bool false] w (BytesEnd (rtextL s.data.toList) w) := by
  go_enter Tryz.func80, Tryz.ntmps80
  go_wp2
  go_loopw [6, 7] (fun out i wr => ∃ (k : Nat) (x : List UInt8), k ≤ s.size ∧ i = .int .i64 k ∧ OwnB 5 wr w.heap.size out x ∧ x.length ≤ k ∧ Below w.heap.size w wr ∧
      Hid (rtextL s.data.toList = (rtextL (s.data.toList.drop k)).map (x ++ ·))) (fun _ i _ => s.size - (intOf i).toNat)
  case atStart => exact ⟨0, [], by omega, rfl, OwnB.nil_ _ _ _, by simp, Below.refl _ _, Lib.hid (by rw [List.drop_zero]; cases rtextL s.data.toList <;> rfl)⟩
  case round =>
    obtain ⟨k, x, hk, rfl, hown, hxl, hb, HX⟩ := hrel
    by_cases hlt : k < s.size
    · have HD := Lib.hid (drop_one s k hlt)
      by_cases h39 : s[k] = 39
      · have hq : ((s[k].toNat : Int) == 39) = true := u8_eq h39
        by_cases h2 : k + 1 < s.size
        · have HD2 := Lib.hid (drop_one s (k + 1) h2)
          have hi2 : ¬ (s.size : Int) ≤ (k : Int) + 1 := by omega
          by_cases h40 : s[k + 1] = 39
          · have hq2 : ((s[k + 1].toNat : Int) == 39) = true := u8_eq h40
            have hq3 : ((s[k + 1].toNat : Int) != 39) = false := by rw [bne, hq2]; rfl
            have HT : Hid (rtextL s.data.toList = (rtextL (s.data.toList.drop (k + 2))).map (x ++ [s[k + 1]] ++ ·)) := Lib.hid (by rw [HX.out, HD.out, HD2.out, h39, h40, rt_q, map_cons_app])
            clear h39 h40
            go_wp2_with (at_builtin; refine wpList_pushB wr 5 _ rfl (.tmp 70) (.tmp 74) _ rfl w.heap.size Tryz.underlying67 infoB _ _ rfl hown [s[k + 1]] rfl 1 1 rfl rfl (by omega) hb.size ?_; intro v3 w3 hown3 hg3)
            go_roundw
            case rel => exact ⟨k + 2, x ++ [s[k + 1]], by omega, by go_num, hown3, by simp; omega, OwnB.next hown hb hg3 hb.size, HT⟩
            case measure => simp [intOf]; omega
          · have hq2 : ((s[k + 1].toNat : Int) == 39) = false := u8_ne h40
            have hq3 : ((s[k + 1].toNat : Int) != 39) = true := by rw [bne, hq2]; rfl
            have HT : Hid (rtextL s.data.toList = none) := Lib.hid (by rw [HX.out, HD.out, HD2.out, h39, rt_bad h40]; rfl)
            clear h39 h40
            go_wp2
            go_ret2
            exact BytesEnd.no HT.out hb
        · have hi2 : (s.size : Int) ≤ (k : Int) + 1 := by omega
          have HT : Hid (rtextL s.data.toList = none) := Lib.hid (by rw [HX.out, last_one s k hlt h2, h39]; rfl)
          clear h39
          go_wp2
          go_ret2
          exact BytesEnd.no HT.out hb
      · have hq : ((s[k].toNat : Int) == 39) = false := u8_ne h39
        have HT : Hid (rtextL s.data.toList = (rtextL (s.data.toList.drop (k + 1))).map (x ++ [s[k]] ++ ·)) := Lib.hid (by rw [HX.out, HD.out, rt_o h39, map_cons_app])
        clear h39
        go_wp2_with (at_builtin; refine wpList_pushB wr 5 _ rfl (.tmp 70) (.tmp 74) _ rfl w.heap.size Tryz.underlying67 infoB _ _ rfl hown [s[k]] rfl 1 1 rfl rfl (by omega) hb.size ?_; intro v3 w3 hown3 hg3)
        go_roundw
        case rel => exact ⟨k + 1, x ++ [s[k]], by omega, by go_num, hown3, by simp; omega, OwnB.next hown hb hg3 hb.size, HT⟩
        case measure => simp [intOf]; omega
    · have HT : Hid (rtextL s.data.toList = some x) := Lib.hid (by rw [HX.out, List.drop_of_length_le (by simp; omega)]; simp [rtextL])
      have hcv := run_convert_own (P := Tryz.prog) wr _ 5 9 Tryz.underlying67 Tryz.underlying5 Tryz.underlying9 _ _ _ hown
      go_wp2
      go_ret2
      exact BytesEnd.yes HT.out hb

theorem nib_bounds (c : UInt8) : -1 ≤ nib c ∧ nib c ≤ 15 := by
  unfold nib
  split
  · omega
  · split <;> omega
theorem rh_two (a b : UInt8) (r : List UInt8) (ha : ¬ nib a < 0) (hb : ¬ nib b < 0) : rhexL (a :: b :: r) = (rhexL r).map (UInt8.ofNat ((nib a).toNat * 16 + (nib b).toNat) :: ·) := by
  rw [rhexL, if_neg (by omega)]
theorem rh_no (a b : UInt8) (r : List UInt8) (h : nib a < 0 ∨ nib b < 0) : rhexL (a :: b :: r) = none := by rw [rhexL, if_pos h]
theorem byte_of (a b : Int) (h0 : 0 ≤ a) (h1 : a ≤ 15) (h2 : 0 ≤ b) (h3 : b ≤ 15) : a * 16 + b = ((UInt8.ofNat (a.toNat * 16 + b.toNat)).toNat : Int) := by
  rw [UInt8.toNat_ofNat']; omega
set_option maxRecDepth 100000 in
set_option maxHeartbeats 2000000 in
theorem Bytes_blob (s : ByteArray) (hs : s.size ≤ 100000000) (w : World) : Calls Tryz.prog 80 #[.string s, .bool true] w (BytesEnd (rhexL s.data.toList) w) := by
  go_enter Tryz.func80, Tryz.ntmps80
  go_wp2
  go_loopw [6, 7] (fun out i wr => ∃ (k : Nat) (x : List UInt8), k ≤ s.size ∧ i = .int .i64 k ∧ OwnB 5 wr w.heap.size out x ∧ x.length ≤ k ∧ Below w.heap.size w wr ∧
      Hid (rhexL s.data.toList = (rhexL (s.data.toList.drop k)).map (x ++ ·))) (fun _ i _ => s.size - (intOf i).toNat)
  case atStart => exact ⟨0, [], by omega, rfl, OwnB.nil_ _ _ _, by simp, Below.refl _ _, Lib.hid (by rw [List.drop_zero]; cases rhexL s.data.toList <;> rfl)⟩
  case round =>
    obtain ⟨k, x, hk, rfl, hown, hxl, hb, HX⟩ := hrel
    by_cases hlt : k < s.size
    · by_cases h2 : k + 1 < s.size
      · have HD : Hid (s.data.toList.drop k = s[k] :: s[k + 1] :: s.data.toList.drop (k + 2)) := Lib.hid (by rw [drop_one s k hlt, drop_one s (k + 1) h2])
        have hi2 : ¬ (s.size : Int) ≤ (k : Int) + 1 := by omega
        have hA := nib_bounds s[k]
        have hB := nib_bounds s[k + 1]
        by_cases ha : nib s[k] < 0
        · have HT : Hid (rhexL s.data.toList = none) := Lib.hid (by rw [HX.out, HD.out, rh_no _ _ _ (.inl ha)]; rfl)
          go_wp2_with (go_at_call 123; refine (Nibble_any _ _).mono ?_; rintro e w1 ⟨rfl, rfl⟩)
          go_ret2
          exact BytesEnd.no HT.out hb
        · by_cases hb2 : nib s[k + 1] < 0
          · have HT : Hid (rhexL s.data.toList = none) := Lib.hid (by rw [HX.out, HD.out, rh_no _ _ _ (.inr hb2)]; rfl)
            go_wp2_with (go_at_call 123; refine (Nibble_any _ _).mono ?_; rintro e w1 ⟨rfl, rfl⟩)
            go_ret2
            exact BytesEnd.no HT.out hb
          · have HT : Hid (rhexL s.data.toList = (rhexL (s.data.toList.drop (k + 2))).map (x ++ [UInt8.ofNat ((nib s[k]).toNat * 16 + (nib s[k + 1]).toNat)] ++ ·)) := Lib.hid (by rw [HX.out, HD.out, rh_two _ _ _ ha hb2, map_cons_app])
            generalize hea : nib s[k] = a at ha hA HT
            generalize heb : nib s[k + 1] = b at hb2 hB HT
            have HA := Lib.hid hea
            have HB := Lib.hid heb
            have HC := Lib.hid (byte_of a b (by omega) hA.2 (by omega) hB.2)
            clear hea heb
            go_wp2_with (first
              | (go_at_call 123; refine (Nibble_any _ _).mono ?_; rintro e w1 ⟨rfl, rfl⟩; first | rw [HA.out] | rw [HB.out])
              | fail)
            have i0 : (0 : Int) ≤ (k : Int) := Int.natCast_nonneg _
            have i1 : (k : Int) < (s.size : Int) := by omega
            have i2 : (k : Int) + 1 < (s.size : Int) := by omega
            have g0 : IntKind.i64.wrap ((k : Int) + 1) = (k : Int) + 1 := IntWalk.i64_in _ (by omega)
            have g1 : (0 : Int) ≤ (k : Int) + 1 := by omega
            have g2 : ((k : Int) + 1).toNat = k + 1 := by omega
            have g3 : IntKind.i64.wrap (a * 16) = a * 16 := IntWalk.i64_in _ (by omega)
            have g4 : IntKind.i64.wrap (a * 16 + b) = a * 16 + b := IntWalk.i64_in _ (by omega)
            have g5 : IntKind.u8.wrap (a * 16 + b) = a * 16 + b := by rw [IntKind.wrap_u8]; omega
            have a0 : 0 ≤ a := by omega
            have b0 : 0 ≤ b := by omega
            go_region_held3 (fun _ => True) (first | exact trivial)
              (first
                | (go_at_call 123; refine (Nibble_any _ _).mono ?_; rintro e w1 ⟨rfl, rfl⟩; first | rw [HA.out] | rw [HB.out])
                | (refine step_append_any (wr.drew.alloc (.cells #[.int .u8 (a * 16 + b)] 5)) rfl (.tmp 35) (.tmp 48) _ (by rfl) w.heap.size _ _ 1 1 Tryz.underlying67 infoB rfl (by decide) (by decide) _ x.length (bcells x) (by rfl) (World.ownsRow.alloc (own_drew hown) _) _ 1 1 [.int .u8 (a * 16 + b)] (by rfl) ⟨rfl, fun _ => ⟨_, rfl, cells_new wr.drew _ _ _ rfl⟩⟩ (by intro u hu; simp at hu; subst hu; rfl) (by omega) (by simp; exact Nat.le_succ_of_le hb.size) ?_; intro v3 w3 hown3 hg3))
            all_goals
              have ho : OwnB 5 w3 w.heap.size v3 (x ++ [UInt8.ofNat (a.toNat * 16 + b.toNat)]) := by
                unfold OwnB
                rw [List.length_append, bcells_append]
                rw [HC.out] at hown3
                exact hown3
              have hb3 := own_next (World.ownsRow.alloc (own_drew hown) _) ((below_drew hb).alloc hb.size _) hg3 (by simp; exact Nat.le_succ_of_le hb.size)
              clear g3 g4 g5 hown3
              go_wp2
              go_roundw
              case rel => first | exact ⟨k + 2, x ++ [UInt8.ofNat (a.toNat * 16 + b.toNat)], by omega, by go_num, ho, by simp; omega, hb3, HT⟩ | ((repeat apply Exists.intro); exact ⟨⟨k + 2, x ++ [UInt8.ofNat (a.toNat * 16 + b.toNat)], by omega, by go_num, ho, by simp; omega, hb3, HT⟩, rfl⟩)
              case measure => simp [intOf]; omega
      · have HT : Hid (rhexL s.data.toList = none) := Lib.hid (by rw [HX.out, last_one s k hlt h2]; rfl)
        have hi2 : (s.size : Int) ≤ (k : Int) + 1 := by omega
        go_wp2
        go_ret2
        exact BytesEnd.no HT.out hb
    · have HT : Hid (rhexL s.data.toList = some x) := Lib.hid (by rw [HX.out, List.drop_of_length_le (by simp; omega)]; simp [rhexL])
      have hcv := run_convert_own (P := Tryz.prog) wr _ 5 9 Tryz.underlying67 Tryz.underlying5 Tryz.underlying9 _ _ _ hown
      go_wp2
      go_ret2
      exact BytesEnd.yes HT.out hb
end Go.Proofs.YtkkildkleleppaaGreatDoor
