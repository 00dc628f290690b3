/- The law walked: bureaulaw31.DumpRound. -/
import Derived.Test.YtkkildkleleppaaDoorHead
import Derived.Test.YtkkildkleleppaaDoorSame
namespace Go.Proofs.YtkkildkleleppaaDoor
open Go.RowKit

theorem params_ge (ps : List V) : ps.length ≤ (paramsT ps).length := by
  induction ps with
  | nil => simp
  | cons v r ih =>
    have e : paramsT (v :: r) = 44 :: v.lit ++ paramsT r := by simp [paramsT]
    rw [e]; simp; omega
theorem part_mem : ∀ {ts : List T} {t : T}, t ∈ ts → t.part.length ≤ (flatT ts).length
  | [], _, h => by cases h
  | u :: ts, t, h => by
    have e : flatT (u :: ts) = u.part ++ flatT ts := by simp [flatT]
    rw [e, List.length_append]
    rcases List.mem_cons.1 h with rfl | h
    · omega
    · have := part_mem h; omega
theorem read_flat {l : List UInt8} {ts : List T} (h : readS (l.length + 1) l 0 = .ok ts) : ts.length ≤ l.length ∧ fitTs ts ∧ textS ts = l ∧ textE ts = 0 := by
  obtain ⟨h1, h2, hf⟩ := readS_sound _ _ _ _ (Nat.zero_le _) h
  rw [List.drop_zero] at hf
  refine ⟨by rw [hf]; exact flatT_ge ts, fun t ht => (h2 t ht), ?_, ?_⟩
  · simp only [textS, h1, if_true, hf]
  · simp only [textE, h1, if_true]
theorem flat_read {ts : List T} (hm : ts.all T.may = true) (hf : ∀ t ∈ ts, t.fit) : readS ((flatT ts).length + 1) (flatT ts) 0 = .ok ts :=
  readS_full ts _ _ 0 (by have := flatT_ge ts; omega) hm hf (by rw [List.drop_zero])

set_option maxRecDepth 100000 in
set_option maxHeartbeats 2000000 in
theorem round_any (a : Option Addr) (n c : Nat) (ts : List T) (hn : n = ts.length) (hl : n ≤ 16777216) (hps : ∀ t ∈ ts, t.ps.length ≤ 16777216) (hf : fitTs ts) (hfl : (flatT ts).length ≤ 100000000)
    (s : ByteArray) (hs : s.size ≤ 16777216) (w : World) (hE : Env w) (h : IsTs w a ts) :
    Calls Tryd.prog 3 #[.slice a n c, .string s] w (Ret w (.bool true)) := by
  have HE := Lib.hid hE
  have H := Lib.hid h
  subst hn
  have HC := Lib.hid (fun w' h => copied_any a ts.length c ts rfl hl hps w' h)
  have HT := Lib.hid (fun a c w' hE h => Text_any a ts.length c ts rfl hl hf w' hE h)
  have HX := Lib.hid (fun w' hE => dread_any s (by omega) w' hE)
  unfold DRead at HX
  cases hm : ts.all T.may with
  | true =>
    have h1 : textS ts = flatT ts := by simp only [textS, hm, if_true]
    have h2 : textE ts = 0 := by simp only [textE, hm, if_true]
    have HR := Lib.hid (fun w' hE => dread_any ⟨(flatT ts).toArray⟩ (by simpa [ByteArray.size] using hfl) w' hE)
    unfold DRead at HR
    have h3 : (⟨(flatT ts).toArray⟩ : ByteArray).data.toList = flatT ts := rfl
    rw [h3, flat_read hm (fun t ht => hf t ht)] at HR
    unfold DReadO at HR
    rw [h1, h2] at HT
    have HS := Lib.hid (fun a3 c3 w' h h' => Same_any a3 ts.length c3 ts rfl a ts.length c ts rfl hl hl hps hps w' h h')
    rw [sameTs_self] at HS
    clear h1 h2 h3 hm hfl hps hf hl hE h
    generalize (⟨(flatT ts).toArray⟩ : ByteArray) = tx at HT HR
    cases ho : readS (s.data.toList.length + 1) s.data.toList 0 with
    | error k =>
      rw [ho] at HX
      unfold DReadO at HX
      clear ho
      go_enter Tryd.func3, Tryd.ntmps3
      go_wp2_with (first | (go_at_call 4; refine (head31_any _ HE.out).mono ?_; rintro e w0 ⟨rfl, hb0⟩; have HB0 := Lib.hid hb0) | (go_at_call 6; refine (HC.out _ (H.out.below HB0.out)).mono ?_; rintro e w1 ⟨v, xs, rfl, hown, htr, hb1⟩; obtain ⟨a1, c1, hv, hx⟩ := own_form hown; clear hx; subst hv; have hts := Lib.hid (own_ts hown htr); have HB1 := Lib.hid (HB0.out.trans (hb1.mono HB0.out.size)); clear hown htr) | (go_at_call 5; (with_reducible refine (HT.out a1 c1 _ (HE.out.below HB1.out) hts.out).mono ?_); rintro e w2 ⟨rfl, hb2⟩; have HB2 := Lib.hid (HB1.out.trans (hb2.mono HB1.out.size))) | (go_at_call 7; (with_reducible refine (HR.out _ (HE.out.below HB2.out)).mono ?_); rintro e w3 ⟨v3, xs3, rfl, ho3, ht3, hb3⟩; obtain ⟨a3, c3, hv3, hx3⟩ := own_form ho3; clear hx3; subst hv3; have HT3 := Lib.hid (own_ts ho3 ht3); have HB3 := Lib.hid (HB2.out.trans (hb3.mono HB2.out.size)); clear ho3 ht3) | (go_at_call 8; refine (HS.out a3 c3 _ HT3.out (H.out.below HB3.out)).mono ?_; rintro e w4 ⟨rfl, hb4⟩; have HB4 := Lib.hid (HB3.out.trans (hb4.mono HB3.out.size))) | (go_at_call 7; (with_reducible refine (HX.out _ (HE.out.below (HB4).out)).mono ?_); rintro e w5 ⟨rfl, hb5⟩; have HB5 := Lib.hid ((HB4).out.trans (hb5.mono (HB4).out.size))))
      go_ret
      exact ⟨rfl, HB5.out⟩
    | ok us =>
      obtain ⟨q1, q2, q3, q4⟩ := read_flat ho
      rw [size_len] at q1
      have HU := Lib.hid (fun a c w' hE h => Text_any a us.length c us rfl (by omega) q2 w' hE h)
      rw [q3, q4, arr_self] at HU
      rw [ho] at HX
      unfold DReadO at HX
      clear ho q1 q2 q3 q4
      go_enter Tryd.func3, Tryd.ntmps3
      go_wp2_with (first | (go_at_call 4; refine (head31_any _ HE.out).mono ?_; rintro e w0 ⟨rfl, hb0⟩; have HB0 := Lib.hid hb0) | (go_at_call 6; refine (HC.out _ (H.out.below HB0.out)).mono ?_; rintro e w1 ⟨v, xs, rfl, hown, htr, hb1⟩; obtain ⟨a1, c1, hv, hx⟩ := own_form hown; clear hx; subst hv; have hts := Lib.hid (own_ts hown htr); have HB1 := Lib.hid (HB0.out.trans (hb1.mono HB0.out.size)); clear hown htr) | (go_at_call 5; (with_reducible refine (HT.out a1 c1 _ (HE.out.below HB1.out) hts.out).mono ?_); rintro e w2 ⟨rfl, hb2⟩; have HB2 := Lib.hid (HB1.out.trans (hb2.mono HB1.out.size))) | (go_at_call 7; (with_reducible refine (HR.out _ (HE.out.below HB2.out)).mono ?_); rintro e w3 ⟨v3, xs3, rfl, ho3, ht3, hb3⟩; obtain ⟨a3, c3, hv3, hx3⟩ := own_form ho3; clear hx3; subst hv3; have HT3 := Lib.hid (own_ts ho3 ht3); have HB3 := Lib.hid (HB2.out.trans (hb3.mono HB2.out.size)); clear ho3 ht3) | (go_at_call 8; refine (HS.out a3 c3 _ HT3.out (H.out.below HB3.out)).mono ?_; rintro e w4 ⟨rfl, hb4⟩; have HB4 := Lib.hid (HB3.out.trans (hb4.mono HB3.out.size))) | (go_at_call 7; (with_reducible refine (HX.out _ (HE.out.below (HB4).out)).mono ?_); rintro e w5 ⟨v5, xs5, rfl, ho5, ht5, hb5⟩; obtain ⟨a5, c5, hv5, hx5⟩ := own_form ho5; clear hx5; subst hv5; have HT5 := Lib.hid (own_ts ho5 ht5); have HB5 := Lib.hid ((HB4).out.trans (hb5.mono (HB4).out.size)); clear ho5 ht5) | (go_at_call 5; (with_reducible refine (HU.out a5 c5 _ (HE.out.below HB5.out) HT5.out).mono ?_); rintro e w6 ⟨rfl, hb6⟩; have HB6 := Lib.hid (HB5.out.trans (hb6.mono HB5.out.size))))
      go_ret
      exact ⟨rfl, HB6.out⟩
  | false =>
    have h2 : textE ts = 2 := by simp only [textE, hm, Bool.false_eq_true, if_false]
    rw [h2] at HT
    clear h2 hm hfl hps hf hl hE h
    cases ho : readS (s.data.toList.length + 1) s.data.toList 0 with
    | error k =>
      rw [ho] at HX
      unfold DReadO at HX
      clear ho
      go_enter Tryd.func3, Tryd.ntmps3
      go_wp2_with (first | (go_at_call 4; refine (head31_any _ HE.out).mono ?_; rintro e w0 ⟨rfl, hb0⟩; have HB0 := Lib.hid hb0) | (go_at_call 6; refine (HC.out _ (H.out.below HB0.out)).mono ?_; rintro e w1 ⟨v, xs, rfl, hown, htr, hb1⟩; obtain ⟨a1, c1, hv, hx⟩ := own_form hown; clear hx; subst hv; have hts := Lib.hid (own_ts hown htr); have HB1 := Lib.hid (HB0.out.trans (hb1.mono HB0.out.size)); clear hown htr) | (go_at_call 5; (with_reducible refine (HT.out a1 c1 _ (HE.out.below HB1.out) hts.out).mono ?_); rintro e w2 ⟨rfl, hb2⟩; have HB2 := Lib.hid (HB1.out.trans (hb2.mono HB1.out.size))) | (go_at_call 7; (with_reducible refine (HX.out _ (HE.out.below (HB2).out)).mono ?_); rintro e w5 ⟨rfl, hb5⟩; have HB5 := Lib.hid ((HB2).out.trans (hb5.mono (HB2).out.size))))
      go_ret
      exact ⟨rfl, HB5.out⟩
    | ok us =>
      obtain ⟨q1, q2, q3, q4⟩ := read_flat ho
      rw [size_len] at q1
      have HU := Lib.hid (fun a c w' hE h => Text_any a us.length c us rfl (by omega) q2 w' hE h)
      rw [q3, q4, arr_self] at HU
      rw [ho] at HX
      unfold DReadO at HX
      clear ho q1 q2 q3 q4
      go_enter Tryd.func3, Tryd.ntmps3
      go_wp2_with (first | (go_at_call 4; refine (head31_any _ HE.out).mono ?_; rintro e w0 ⟨rfl, hb0⟩; have HB0 := Lib.hid hb0) | (go_at_call 6; refine (HC.out _ (H.out.below HB0.out)).mono ?_; rintro e w1 ⟨v, xs, rfl, hown, htr, hb1⟩; obtain ⟨a1, c1, hv, hx⟩ := own_form hown; clear hx; subst hv; have hts := Lib.hid (own_ts hown htr); have HB1 := Lib.hid (HB0.out.trans (hb1.mono HB0.out.size)); clear hown htr) | (go_at_call 5; (with_reducible refine (HT.out a1 c1 _ (HE.out.below HB1.out) hts.out).mono ?_); rintro e w2 ⟨rfl, hb2⟩; have HB2 := Lib.hid (HB1.out.trans (hb2.mono HB1.out.size))) | (go_at_call 7; (with_reducible refine (HX.out _ (HE.out.below (HB2).out)).mono ?_); rintro e w5 ⟨v5, xs5, rfl, ho5, ht5, hb5⟩; obtain ⟨a5, c5, hv5, hx5⟩ := own_form ho5; clear hx5; subst hv5; have HT5 := Lib.hid (own_ts ho5 ht5); have HB5 := Lib.hid ((HB2).out.trans (hb5.mono (HB2).out.size)); clear ho5 ht5) | (go_at_call 5; (with_reducible refine (HU.out a5 c5 _ (HE.out.below HB5.out) HT5.out).mono ?_); rintro e w6 ⟨rfl, hb6⟩; have HB6 := Lib.hid (HB5.out.trans (hb6.mono HB5.out.size))))
      go_ret
      exact ⟨rfl, HB6.out⟩
end Go.Proofs.YtkkildkleleppaaDoor
