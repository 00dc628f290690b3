/- The law walked: bureaulaw31.DumpReads. -/
import Derived.Test.YtkkildkleleppaaGreatDoorRefRead
import Derived.Test.YtkkildkleleppaaGreatDoorHead
import Derived.Test.YtkkildkleleppaaGreatDoorSame
namespace Go.Proofs.YtkkildkleleppaaGreatDoor
open Go.RowKit

theorem params_ge (ps : List V) : ps.length ≤ (paramsT ps).length := by
  induction ps with
  | nil => simp
  | cons v r ih =>
    have e : paramsT (v :: r) = 44 :: v.lit ++ paramsT r := by simp [paramsT]
    rw [e]; simp; omega
theorem part_mem : ∀ {ts : List T} {t : T}, t ∈ ts → t.part.length ≤ (flatT ts).length
  | [], _, h => by cases h
  | u :: ts, t, h => by
    have e : flatT (u :: ts) = u.part ++ flatT ts := by simp [flatT]
    rw [e, List.length_append]
    rcases List.mem_cons.1 h with rfl | h
    · omega
    · have := part_mem h; omega
theorem read_bound {l : List UInt8} {ts : List T} (h : readS (l.length + 1) l 0 = .ok ts) : ts.length ≤ l.length ∧ ∀ t ∈ ts, t.ps.length ≤ l.length := by
  obtain ⟨-, -, hf⟩ := readS_sound _ _ _ _ (Nat.zero_le _) h
  rw [List.drop_zero] at hf
  rw [hf]
  refine ⟨flatT_ge ts, fun t ht => ?_⟩
  have h1 := part_mem ht
  have h2 := params_ge t.ps
  have h3 : (paramsT t.ps).length ≤ t.part.length := by simp [T.part]; omega
  omega

set_option maxRecDepth 100000 in
set_option maxHeartbeats 1000000 in
theorem reads_any (s : ByteArray) (hs : s.size ≤ 16777216) (w : World) (hE : Env w) : Calls Tryz.prog 4 #[.string s] w (Ret w (.bool true)) := by
  have HE := Lib.hid hE
  have HD := Lib.hid (fun w' hE => dread_any s (by omega) w' hE)
  have HR := Lib.hid (fun w' hE => refread_any s hs w' hE)
  unfold DRead at HD HR
  cases ho : readS (s.data.toList.length + 1) s.data.toList 0 with
  | error k =>
    rw [ho] at HD HR
    unfold DReadO at HD HR
    clear ho hE
    have HS := Lib.hid (fun w' => Same_any none 0 0 [] rfl none 0 0 [] rfl (by decide) (by decide) (by intro t ht; cases ht) (by intro t ht; cases ht) w' (.inl rfl) (.inl rfl))
    rw [sameTs_self] at HS
    go_enter Tryz.func4, Tryz.ntmps4
    go_wp2_with (first
      | (go_at_call 13; refine (HD.out _ HE.out).mono ?_; rintro e w1 ⟨rfl, hb1⟩; have HB1 := Lib.hid hb1)
      | (go_at_call 14; refine (HR.out _ (HE.out.below HB1.out)).mono ?_; rintro e w2 ⟨rfl, hb2⟩; have HB2 := Lib.hid (HB1.out.trans (hb2.mono HB1.out.size)))
      | (go_at_call 12; refine (head31_any _ (HE.out.below HB2.out)).mono ?_; rintro e w3 ⟨rfl, hb3⟩; have HB3 := Lib.hid (HB2.out.trans (hb3.mono HB2.out.size)))
      | (go_at_call 15; refine (HS.out _).mono ?_; rintro e w4 ⟨rfl, hb4⟩; have HB4 := Lib.hid (HB3.out.trans (hb4.mono HB3.out.size))))
    go_ret
    exact ⟨rfl, HB4.out⟩
  | ok ts =>
    obtain ⟨q1, q2⟩ := read_bound ho
    rw [size_len] at q1
    have q3 : ∀ t ∈ ts, t.ps.length ≤ 16777216 := fun t ht => by have := q2 t ht; rw [size_len] at this; omega
    rw [ho] at HD HR
    unfold DReadO at HD HR
    clear ho hE
    have HS := Lib.hid (fun a c a' c' w' h h' => Same_any a ts.length c ts rfl a' ts.length c' ts rfl (by omega) (by omega) q3 q3 w' h h')
    rw [sameTs_self] at HS
    clear q1 q2 q3
    go_enter Tryz.func4, Tryz.ntmps4
    go_wp2_with (first
      | (go_at_call 13; refine (HD.out _ HE.out).mono ?_; rintro e w1 ⟨v, xs, rfl, ho1, ht1, hb1⟩; have HB1 := Lib.hid hb1; obtain ⟨a1, c1, hv, hx⟩ := own_form ho1; clear hx; subst hv; have HT1 := Lib.hid (own_ts ho1 ht1); clear ho1 ht1)
      | (go_at_call 14; refine (HR.out _ (HE.out.below HB1.out)).mono ?_; rintro e w2 ⟨v2, xs2, rfl, ho2, ht2, hb2⟩; have HB2 := Lib.hid (HB1.out.trans (hb2.mono HB1.out.size)); have HT1' := Lib.hid (HT1.out.below hb2); obtain ⟨a2, c2, hv2, hx2⟩ := own_form ho2; clear hx2; subst hv2; have HT2 := Lib.hid (own_ts ho2 ht2); clear ho2 ht2)
      | (go_at_call 12; refine (head31_any _ (HE.out.below HB2.out)).mono ?_; rintro e w3 ⟨rfl, hb3⟩; have HB3 := Lib.hid (HB2.out.trans (hb3.mono HB2.out.size)); have HT3 := Lib.hid (And.intro (HT1'.out.below hb3) (HT2.out.below hb3)))
      | (go_at_call 15; refine (HS.out a1 c1 a2 c2 _ HT3.out.1 HT3.out.2).mono ?_; rintro e w4 ⟨rfl, hb4⟩; have HB4 := Lib.hid (HB3.out.trans (hb4.mono HB3.out.size))))
    go_ret
    exact ⟨rfl, HB4.out⟩
end Go.Proofs.YtkkildkleleppaaGreatDoor
