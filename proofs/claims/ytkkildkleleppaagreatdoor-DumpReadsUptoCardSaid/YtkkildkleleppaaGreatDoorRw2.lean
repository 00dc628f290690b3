/- The document's reader, walked: Ends, Cuts. -/
import Derived.Test.YtkkildkleleppaaGreatDoorRw
namespace Go.Proofs.YtkkildkleleppaaGreatDoor
open Go.RowKit

theorem infoI : (Tryz.prog.info? 3).map (fun i => (i.zero, i.size, i.bytes)) = some (some (.int .i64 0), 1, 8) := by kernel_rfl
theorem infoS : (Tryz.prog.info? 9).map (fun i => (i.zero, i.size, i.bytes)) = some (some (.string ⟨#[]⟩), 1, 16) := by kernel_rfl
/-- Numbers as cells. -/
def icells (l : List Nat) : List Value := l.map fun (k : Nat) => .int .i64 (k : Int)
theorem icells_append (a b : List Nat) : icells (a ++ b) = icells a ++ icells b := by simp [icells]
theorem icells_at (l : List Nat) (i : Nat) (h : i < l.length) : (icells l)[i]? = some (.int .i64 (l[i] : Int)) := by simp [icells, List.getElem?_eq_getElem h]

def EndsEnd (l : List UInt8) (w : World) (e : Ending) (w' : World) : Prop := ∃ v, e = .returned v ∧ w'.ownsRow w.heap.size 3 1 v (endsL false 0 l).length (icells (endsL false 0 l)) ∧ Below w.heap.size w w'
theorem endsL_hit {i : Nat} {r : List UInt8} : endsL false i (10 :: r) = (i + 1) :: endsL false (i + 1) r := by
  rw [endsL, if_pos ⟨rfl, rfl⟩]; rfl
theorem endsL_miss {q : Bool} {i : Nat} {c : UInt8} {r : List UInt8} (h : c ≠ 10 ∨ tog q c = true) : endsL q i (c :: r) = endsL (tog q c) (i + 1) r := by
  rw [endsL, if_neg]
  rintro ⟨h1, h2⟩
  rcases h with h | h
  · exact h h1
  · rw [h] at h2; cases h2


set_option maxRecDepth 100000 in
set_option maxHeartbeats 1000000 in
theorem Ends_any (s : ByteArray) (hs : s.size ≤ 100000000) (w : World) : Calls Tryz.prog 36 #[.string s] w (EndsEnd s.data.toList w) := by
  go_enter Tryz.func36, Tryz.ntmps36
  go_wp2
  go_loopw [3, 4, 5] (fun out q i wr => ∃ (k : Nat) (b : Bool) (es : List Nat), k ≤ s.size ∧ i = .int .i64 k ∧ q = .bool b ∧ wr.ownsRow w.heap.size 3 1 out es.length (icells es) ∧ Below w.heap.size w wr ∧ es.length ≤ k ∧ Hid (endsL false 0 s.data.toList = es ++ endsL b k (s.data.toList.drop k))) (fun _ _ i _ => s.size - (intOf i).toNat)
  case atStart => exact ⟨0, false, [], by omega, rfl, rfl, World.ownsRow_nil _ _ _ _, Below.refl _ _, by simp, Lib.hid (by simp)⟩
  case round =>
    obtain ⟨k, b, es, hk, rfl, rfl, hown, hb, hel, HK⟩ := hrel
    by_cases hlt : k < s.size
    · have HD := Lib.hid (drop_one s k hlt)
      by_cases h39 : s[k] = 39
      · have hq : ((s[k].toNat : Int) == 39) = true := u8_eq h39
        have hq2 : ((s[k].toNat : Int) == 10) = false := by rw [h39]; rfl
        have HX : Hid (endsL false 0 s.data.toList = es ++ endsL (!b) (k + 1) (s.data.toList.drop (k + 1))) := Lib.hid (by rw [HK.out, HD.out, endsL_miss (.inl (by rw [h39]; decide)), show tog b s[k] = !b by simp [tog, h39]])
        clear h39
        go_wp2
        go_roundw
        case rel => exact ⟨k + 1, !b, es, by omega, by go_num, rfl, hown, hb, by omega, HX⟩
        case measure => simp [intOf]; omega
      · have hq : ((s[k].toNat : Int) == 39) = false := u8_ne h39
        have ht : tog b s[k] = b := by simp [tog, h39]
        by_cases h10 : s[k] = 10
        · have hq2 : ((s[k].toNat : Int) == 10) = true := u8_eq h10
          cases b with
          | true =>
            have HX : Hid (endsL false 0 s.data.toList = es ++ endsL true (k + 1) (s.data.toList.drop (k + 1))) := Lib.hid (by rw [HK.out, HD.out, endsL_miss (.inr ht), ht])
            clear h39 h10 ht
            go_wp2
            go_roundw
            case rel => exact ⟨k + 1, true, es, by omega, by go_num, rfl, hown, hb, by omega, HX⟩
            case measure => simp [intOf]; omega
          | false =>
            have HX : Hid (endsL false 0 s.data.toList = (es ++ [k + 1]) ++ endsL false (k + 1) (s.data.toList.drop (k + 1))) := Lib.hid (by rw [HK.out, HD.out, h10, endsL_hit]; simp)
            clear h39 h10 ht
            go_wp2_with (at_builtin; refine wpList_pushR wr 3 _ rfl (.tmp 26) (.tmp 29) _ rfl w.heap.size _ 1 8 Tryz.underlying43 infoI rfl (by decide) (by decide) _ es.length (icells es) rfl hown [.int .i64 ((k : Int) + 1)] rfl (by intro u hu; simp at hu; subst hu; rfl) 1 1 rfl rfl (by omega) hb.size ?_; intro v3 w3 hown3 hg3)
            go_roundw
            case rel => exact ⟨k + 1, false, es ++ [k + 1], by omega, by go_num, rfl, by rw [icells_append, List.length_append]; exact hown3, own_next hown hb hg3 hb.size, by simp; omega, HX⟩
            case measure => simp [intOf]; omega
        · have hq2 : ((s[k].toNat : Int) == 10) = false := u8_ne h10
          have HX : Hid (endsL false 0 s.data.toList = es ++ endsL b (k + 1) (s.data.toList.drop (k + 1))) := Lib.hid (by rw [HK.out, HD.out, endsL_miss (.inl h10), ht])
          clear h39 h10 ht
          go_wp2
          go_roundw
          case rel => exact ⟨k + 1, b, es, by omega, by go_num, rfl, hown, hb, by omega, HX⟩
          case measure => simp [intOf]; omega
    · have HX : Hid (endsL false 0 s.data.toList = es) := Lib.hid (by rw [HK.out, List.drop_of_length_le (by simp; omega)]; simp [endsL])
      go_wp2
      go_ret
      refine ⟨_, rfl, ?_, hb⟩
      rw [HX.out]; exact hown
end Go.Proofs.YtkkildkleleppaaGreatDoor
