/- What a value may be: value.May, the reference's May, and rows of them. -/
import Derived.Test.YtkkildkleleppaaDoorProg
import Derived.Test.YtkkildkleleppaaDoorSpec
namespace Go.Proofs.YtkkildkleleppaaDoor
open Go.RowKit

set_option maxHeartbeats 400000 in
theorem May_any (v : V) (w : World) : Calls Tryd.prog 21 #[v.val] w (Ret w (.bool v.may)) := by
  obtain ⟨k, n, s⟩ := v
  simp only [V.val, V.may]
  go_enter Tryd.func21, Tryd.ntmps21
  go_wp2
  all_goals go_ret
  all_goals refine ⟨?_, (Below.refl _ _).alloc (Nat.le_refl _) _⟩
  all_goals simp_all [mayB, toList_data]
  all_goals omega

theorem May1_any (v : V) (w : World) : Calls Tryd.prog 20 #[v.val] w (Ret w (.bool (!v.may))) := by
  obtain ⟨k, n, s⟩ := v
  simp only [V.val]
  go_enter Tryd.func20, Tryd.ntmps20
  go_wp2_with (go_at_call 21; refine (May_any ⟨k, n, s⟩ _).mono ?_; rintro e w1 ⟨rfl, hb1⟩)
  go_ret
  exact ⟨rfl, box_below2 hb1⟩

/-- The place of the first value that may not be, or a number below 0. -/
def IdxEnd (vs : List V) (w : World) (e : Ending) (w' : World) : Prop := ∃ r : Int, e = .returned (.int .i64 r) ∧ (0 ≤ r ↔ badV vs = true) ∧ Below w.heap.size w w'

set_option maxHeartbeats 400000 in
theorem IndexFunc_any (a : Option Addr) (n c : Nat) (vs : List V) (hn : n = vs.length) (hl : n ≤ 16777216) (w : World) (h : IsVs w a vs) :
    Calls Tryd.prog 31 #[.slice a n c, .func (.func 20) #[] #[]] w (IdxEnd vs w) := by
  have HN := Lib.hid hn
  clear hn
  go_enter Tryd.func31, Tryd.ntmps31
  go_wp2
  go_loopw [5, 8] (fun _ i wr => ∃ k : Nat, k ≤ n ∧ i = .int .i64 k ∧ Below w.heap.size w wr ∧ (vs.take k).all V.may = true) (fun _ i _ => n - (intOf i).toNat)
  case atStart => exact ⟨0, Nat.zero_le _, rfl, Below.refl _ _, by simp⟩
  case round =>
    obtain ⟨k, hk, rfl, hb, hall⟩ := hrel
    have HA := Lib.hid hall
    clear hall
    by_cases hlt : k < n
    · have hkv : k < vs.length := by have := HN.out; omega
      obtain ⟨b, o, rfl, c0, c1, c2⟩ := (h.below hb).at_ hkv
      generalize hv : vs[k] = v at c0 c1 c2
      have HV := Lib.hid hv
      clear hv
      cases hm : v.may with
      | true =>
        have HM := Lib.hid hm
        clear hm
        go_wp2_with (go_at_call 20; refine (May1_any v _).mono ?_; rw [HM.out]; rintro e w1 ⟨rfl, hb1⟩)
        go_roundw
        case rel =>
          refine ⟨k + 1, by omega, by go_num, hb.trans (hb1.mono hb.size), ?_⟩
          rw [List.take_succ_eq_append_getElem hkv, List.all_append, HA.out, HV.out]
          simp [HM.out]
        case measure => simp [intOf]; omega
      | false =>
        have HM := Lib.hid hm
        clear hm
        go_wp2_with (go_at_call 20; refine (May1_any v _).mono ?_; rw [HM.out]; rintro e w1 ⟨rfl, hb1⟩)
        go_ret
        exact ⟨k, rfl, ⟨fun _ => badV_of hkv (by rw [HV.out]; exact HM.out), fun _ => by omega⟩, hb.trans (hb1.mono hb.size)⟩
    · have hkn : k = n := by omega
      subst hkn
      have hall2 : badV vs = false := by
        have h1 := HA.out
        rw [HN.out, List.take_length] at h1
        exact badV_no h1
      have HB := Lib.hid hall2
      clear hall2
      go_wp2
      go_ret
      exact ⟨-1, rfl, ⟨fun h => by omega, fun h => by rw [HB.out] at h; cases h⟩, hb⟩

theorem ContainsFunc_any (a : Option Addr) (n c : Nat) (vs : List V) (hn : n = vs.length) (hl : n ≤ 16777216) (w : World) (h : IsVs w a vs) :
    Calls Tryd.prog 19 #[.slice a n c, .func (.func 20) #[] #[]] w (Ret w (.bool (badV vs))) := by
  have H := Lib.hid (IndexFunc_any a n c vs hn hl w h)
  clear h hn
  go_enter Tryd.func19, Tryd.ntmps19
  go_wp2_with (go_at_call 31; refine H.out.mono ?_; rintro e w1 ⟨r, rfl, hr, hb1⟩; have HR := Lib.hid hr; clear hr)
  go_ret
  refine ⟨?_, hb1⟩
  have : decide (0 ≤ r) = badV vs := by
    rw [Bool.eq_iff_iff, decide_eq_true_eq]; exact HR.out
  rw [← this]; rfl

/-- A told thing as a value. -/
def toldV (sql : ByteArray) (a : Option Addr) (n c : Nat) : Value := .agg #[.string sql, .slice a n c]

set_option maxHeartbeats 400000 in
theorem dmay_any (sql : ByteArray) (a : Option Addr) (n c : Nat) (ps : List V) (hn : n = ps.length) (w : World) (h : IsVs w a ps) :
    Calls Tryd.prog 9 #[toldV sql a n c] w (Ret w (.bool (T.may ⟨sql, ps⟩))) := by
  simp only [toldV]
  by_cases h1 : sql.size ≤ 2000
  · by_cases h2 : n ≤ 16
    · have H := Lib.hid (fun W hb => ContainsFunc_any a n c ps hn (by omega) W (h.below hb))
      have HF : Hid (T.may ⟨sql, ps⟩ = !badV ps) := by
        apply Lib.hid
        simp [T.may, h1, ← hn, h2]
      clear h hn
      go_enter Tryd.func9, Tryd.ntmps9
      go_wp2_with (go_at_call 19; refine (H.out _ ((Below.refl _ _).alloc (Nat.le_refl _) _)).mono ?_; rintro e w1 ⟨rfl, hb1⟩)
      go_ret
      refine ⟨?_, box_below2 hb1⟩
      rw [HF.out]; rfl
    · have HF : Hid (T.may ⟨sql, ps⟩ = false) := by
        apply Lib.hid
        simp [T.may, ← hn, h2]
      clear h hn
      go_enter Tryd.func9, Tryd.ntmps9
      go_wp2_with fail
      go_ret
      refine ⟨?_, (Below.refl _ _).alloc (Nat.le_refl _) _⟩
      rw [HF.out]; rfl
  · have HF : Hid (T.may ⟨sql, ps⟩ = false) := by
      apply Lib.hid
      simp [T.may, h1]
    clear h hn
    go_enter Tryd.func9, Tryd.ntmps9
    go_wp2_with fail
    go_ret
    refine ⟨?_, (Below.refl _ _).alloc (Nat.le_refl _) _⟩
    rw [HF.out]; rfl

end Go.Proofs.YtkkildkleleppaaDoor
