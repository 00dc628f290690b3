/- The document's reader, walked: bureauref02.Read. -/
import Derived.Test.YtkkildkleleppaaGreatDoorRw4
import Derived.Test.YtkkildkleleppaaGreatDoorRead
namespace Go.Proofs.YtkkildkleleppaaGreatDoor
open Go.RowKit

theorem Bytes_any (b : Bool) (s : ByteArray) (hs : s.size ≤ 100000000) (w : World) : Calls Tryz.prog 80 #[.string s, .bool b] w (BytesEnd (rbytes b s.data.toList) w) := by
  cases b with
  | false => exact Bytes_text s hs w
  | true => exact Bytes_blob s hs w

/-- The document's value of a literal is told. -/
def RReadO (o : Option V) (w : World) (e : Ending) (w' : World) : Prop :=
  match o with
  | some v => Ret w (.tuple #[v.val, .int .i64 0]) e w'
  | none => ∃ n : Int, (n == 0) = false ∧ Ret w (.tuple #[(V.mk 0 0 ByteArray.empty).val, .int .i64 n]) e w'
theorem RReadO.yes {o : Option V} {v : V} {w w' : World} (h : o = some v) (hb : Below w.heap.size w w') : RReadO o w (.returned (.tuple #[.agg #[.int .i64 v.k, .int .i64 v.n, .string v.s], .int .i64 0])) w' := by subst h; exact ⟨rfl, hb⟩
theorem RReadO.no {o : Option V} {w w' : World} (h : o = none) (n : Int) (hn : (n == 0) = false) (hb : Below w.heap.size w w') : RReadO o w (.returned (.tuple #[.agg #[.int .i64 0, .int .i64 0, .string ⟨#[]⟩], .int .i64 n])) w' := by subst h; exact ⟨n, hn, rfl, hb⟩

theorem rread_long {l : List UInt8} (h : 1000 < l.length) : rread l = none := by simp [rread, h]
theorem rread_null {l : List UInt8} (h : l = [78, 85, 76, 76]) : rread l = some ⟨0, 0, ByteArray.empty⟩ := by subst h; rfl
theorem rread_num {l : List UInt8} {n : Int} (h : ¬ 1000 < l.length) (h2 : l ≠ [78, 85, 76, 76]) (h3 : rnum l = some n) : rread l = some ⟨1, n, ByteArray.empty⟩ := by simp [rread, h, h2, h3]
theorem rread_quo {l : List UInt8} (h : ¬ 1000 < l.length) (h2 : l ≠ [78, 85, 76, 76]) (h3 : rnum l = none) : rread l = match rquo l with | none => none | some b => if b.length ≤ 400 then some ⟨rkind l, 0, ⟨b.toArray⟩⟩ else none := by unfold rread; rw [if_neg h, if_neg h2, h3]; rfl
theorem rquo_no {l : List UInt8} {F : Nat} (hF : rfrom l = F) (h : l.length < F + 2 ∨ l[F]? ≠ some 39 ∨ l[l.length - 1]? ≠ some 39) : rquo l = none := by
  unfold rquo; rw [hF, if_pos h]
theorem rquo_yes {l : List UInt8} {F : Nat} (hF : rfrom l = F) (h : ¬ l.length < F + 2) (h2 : l[F]? = some 39) (h3 : l[l.length - 1]? = some 39) : rquo l = rbytes (rblobB l) (innerL l (F + 1)) := by
  unfold rquo; rw [hF, if_neg]
  rintro (a | a | a)
  · exact h a
  · exact a h2
  · exact a h3
theorem may_kind {k : Int} (x : List UInt8) (h : k = 2 ∨ k = 3) : (V.mk k 0 ⟨x.toArray⟩).may = decide (x.length ≤ 400) := by
  have h0 : k ≠ 0 := by omega
  have h1 : k ≠ 1 := by omega
  simp only [V.may, mayB, h0, h1, h, if_true, if_false]
  simp


set_option maxRecDepth 100000 in
set_option maxHeartbeats 2000000 in
theorem RRead_any (s : ByteArray) (hs : s.size ≤ 100000000) (w : World) : Calls Tryz.prog 81 #[.string s] w (RReadO (rread s.data.toList) w) := by
  by_cases hl : 1000 < s.size
  · have HN := Lib.hid (rread_long (l := s.data.toList) (by simpa using hl))
    have hi : (1000 : Int) < (s.size : Int) := by omega
    go_enter Tryz.func81, Tryz.ntmps81
    go_wp2
    refine bodyPost_ret (by simp [results, Tryz.results81, go_sem]; try rfl) rfl ?_
    exact RReadO.no HN.out 3 rfl (by go_grown)
  · have hlL : ¬ 1000 < s.data.toList.length := by simpa using hl
    have hi : ¬ (1000 : Int) < (s.size : Int) := by omega
    by_cases hnl : s.data.toList = [78, 85, 76, 76]
    · have HN := Lib.hid (rread_null hnl)
      have hq : (s.toList == [78, 85, 76, 76]) = true := by rw [toList_data, hnl]; rfl
      clear hnl
      go_enter Tryz.func81, Tryz.ntmps81
      go_wp2
      refine bodyPost_ret (by simp [results, Tryz.results81, go_sem]; try rfl) rfl ?_
      exact RReadO.yes HN.out (by go_grown)
    · have hq : (s.toList == [78, 85, 76, 76]) = false := by rw [toList_data]; exact beq_eq_false_iff_ne.2 hnl
      have NU := Lib.hid (Number_any s (by omega))
      unfold RNum at NU
      cases hn : rnum s.data.toList with
      | some n =>
        rw [hn] at NU
        have HN := Lib.hid (rread_num hlL hnl hn)
        clear hnl hn
        go_enter Tryz.func81, Tryz.ntmps81
        go_wp2_with (go_at_call 124; refine (NU.out _).mono ?_; rintro e w1 ⟨rfl, rfl⟩)
        refine bodyPost_ret (by simp [results, Tryz.results81, go_sem]; try rfl) rfl ?_
        exact RReadO.yes HN.out (by go_grown)
      | none =>
        rw [hn] at NU
        have HQ := Lib.hid (rread_quo hlL hnl hn)
        clear hnl hn
        by_cases hz : 0 < s.size
        · have hi0 := idx0 s hz
          have hzi : (0 : Int) < (s.size : Int) := by omega
          by_cases h120 : s[0] = 120
          · have hqx : ((s[0].toNat : Int) == 120) = true := u8_eq h120
            have hB : rblobB s.data.toList = true := by simp [rblobB, hi0, h120]
            have hF : rfrom s.data.toList = 1 := by simp [rfrom, hB]
            by_cases hs2 : s.size < 1 + 2
            · have HN : Hid (rread s.data.toList = none) := Lib.hid (by rw [HQ.out, rquo_no hF (.inl (by simpa using hs2))])
              clear hF hB h120 HQ hi0
              go_enter Tryz.func81, Tryz.ntmps81
              go_wp2_with (go_at_call 124; refine (NU.out _).mono ?_; rintro e w1 ⟨rfl, rfl⟩)
              refine bodyPost_ret (by simp [results, Tryz.results81, go_sem]; try rfl) rfl ?_
              exact RReadO.no HN.out 120 rfl (by go_grown)
            · by_cases hq39 : s[1] = 39
              · have hf : ((s[1].toNat : Int) == 39) = true := u8_eq hq39
                have hf2 : ((s[1].toNat : Int) != 39) = false := by rw [bne, hf]; rfl
                by_cases hl39 : s[s.size - 1] = 39
                · have hg : ((s[s.size - 1].toNat : Int) == 39) = true := u8_eq hl39
                  have hg2 : ((s[s.size - 1].toNat : Int) != 39) = false := by rw [bne, hg]; rfl
                  have HR : Hid (rread s.data.toList = match rbytes true (innerL s.data.toList 2) with | none => none | some b => if b.length ≤ 400 then some ⟨3, 0, ⟨b.toArray⟩⟩ else none) := Lib.hid (by
                    rw [HQ.out, rquo_yes hF (by simpa using hs2) (by rw [idxk s 1 (by omega), hq39]) (by rw [size_len, idxk s (s.size - 1) (by omega), hl39]), hB]; simp only [rkind, hB]; rfl)
                  have BY := Lib.hid (Bytes_any true (s.extract 2 (s.size - 1)) (by rw [ByteArray.size_extract]; omega))
                  have hEx : (s.extract 2 (s.size - 1)).data.toList = innerL s.data.toList 2 := by rw [extract_list]; rfl
                  rw [hEx] at BY
                  clear hF hB h120 HQ hi0 hq39 hl39 hEx
                  cases ho : rbytes true (innerL s.data.toList 2) with
                  | none =>
                    rw [ho] at BY HR
                    have HN : Hid (rread s.data.toList = none) := Lib.hid HR.out
                    clear HR ho
                    go_enter Tryz.func81, Tryz.ntmps81
                    go_wp2_with (first
                      | (go_at_call 124; refine (NU.out _).mono ?_; rintro e w1 ⟨rfl, rfl⟩)
                      | (go_at_call 80; refine (BY.out _).mono ?_; rintro e w2 ⟨x, ⟨rfl, hb2⟩, -⟩; have hbx : Below (w.heap.size + 1) _ w2 := hb2.mono (by simp); have hz2 : w.heap.size + 1 ≤ w2.heap.size := (by have := hb2.size; simpa using this); have hb3 := hbx.alloc hz2 (.cells #[.int .i64 3, .int .i64 0, .string x] 80); obtain ⟨c0, c1, c2, f0, f1, f2⟩ := box3 hb3))
                    refine bodyPost_ret (by simp [results, Tryz.results81, go_sem, c0, c1, c2]; try rfl) rfl ?_
                    exact RReadO.no HN.out 120 rfl (box_set3 hb3)
                  | some y =>
                    rw [ho] at BY HR
                    have HY : Hid (rread s.data.toList = if y.length ≤ 400 then some ⟨3, 0, ⟨y.toArray⟩⟩ else none) := Lib.hid HR.out
                    clear HR ho
                    have HM : Hid ((V.mk 3 0 ⟨y.toArray⟩).may = decide (y.length ≤ 400)) := Lib.hid (may_kind y (by decide))
                    by_cases hy : y.length ≤ 400
                    · have HN : Hid (rread s.data.toList = some ⟨3, 0, ⟨y.toArray⟩⟩) := Lib.hid (by rw [HY.out, if_pos hy])
                      have HM2 : Hid ((V.mk 3 0 ⟨y.toArray⟩).may = true) := Lib.hid (by rw [HM.out]; simpa using hy)
                      clear HY HM hy
                      go_enter Tryz.func81, Tryz.ntmps81
                      go_wp2_with (first
                        | (go_at_call 124; refine (NU.out _).mono ?_; rintro e w1 ⟨rfl, rfl⟩)
                        | (go_at_call 80; refine (BY.out _).mono ?_; rintro e w2 ⟨x, ⟨rfl, hb2⟩, hx⟩; have hxe := hx y rfl; clear hx; subst hxe; have hbx : Below (w.heap.size + 1) _ w2 := hb2.mono (by simp); have hz2 : w.heap.size + 1 ≤ w2.heap.size := by have := hb2.size; simpa using this)
                        | (go_at_call 119; refine (RMay_any ⟨3, 0, ⟨y.toArray⟩⟩ _).mono ?_; rw [HM2.out]; rintro e w3 ⟨rfl, hb3⟩; have hb3x : Below (w2.heap.size + 1) _ w3 := hb3.mono (by simp); have hb4 : Below (w.heap.size + 1) _ w3 := (hbx.alloc hz2 _).trans (hb3x.mono (by omega)); obtain ⟨c0, c1, c2, f0, f1, f2⟩ := box3 hb4; obtain ⟨d0, d1, d2, -, -, -⟩ := box3 hb3x))
                      refine bodyPost_ret (by simp [results, Tryz.results81, go_sem, c0, c1, c2]; try rfl) rfl ?_
                      exact RReadO.yes HN.out (box_set3 hb4)
                    · have HN : Hid (rread s.data.toList = none) := Lib.hid (by rw [HY.out, if_neg hy])
                      have HM2 : Hid ((V.mk 3 0 ⟨y.toArray⟩).may = false) := Lib.hid (by rw [HM.out]; simpa using hy)
                      clear HY HM hy
                      go_enter Tryz.func81, Tryz.ntmps81
                      go_wp2_with (first
                        | (go_at_call 124; refine (NU.out _).mono ?_; rintro e w1 ⟨rfl, rfl⟩)
                        | (go_at_call 80; refine (BY.out _).mono ?_; rintro e w2 ⟨x, ⟨rfl, hb2⟩, hx⟩; have hxe := hx y rfl; clear hx; subst hxe; have hbx : Below (w.heap.size + 1) _ w2 := hb2.mono (by simp); have hz2 : w.heap.size + 1 ≤ w2.heap.size := by have := hb2.size; simpa using this)
                        | (go_at_call 119; refine (RMay_any ⟨3, 0, ⟨y.toArray⟩⟩ _).mono ?_; rw [HM2.out]; rintro e w3 ⟨rfl, hb3⟩; have hb3x : Below (w2.heap.size + 1) _ w3 := hb3.mono (by simp); have hb4 : Below (w.heap.size + 1) _ w3 := (hbx.alloc hz2 _).trans (hb3x.mono (by omega)); obtain ⟨c0, c1, c2, f0, f1, f2⟩ := box3 hb4; obtain ⟨d0, d1, d2, -, -, -⟩ := box3 hb3x))
                      refine bodyPost_ret (by simp [results, Tryz.results81, go_sem, c0, c1, c2]; try rfl) rfl ?_
                      exact RReadO.no HN.out 120 rfl (box_set3 hb4)
                · have hg : ((s[s.size - 1].toNat : Int) == 39) = false := u8_ne hl39
                  have hg2 : ((s[s.size - 1].toNat : Int) != 39) = true := by rw [bne, hg]; rfl
                  have HN : Hid (rread s.data.toList = none) := Lib.hid (by rw [HQ.out, rquo_no hF (.inr (.inr (by rw [size_len, idxk s (s.size - 1) (by omega)]; simpa using hl39)))])
                  clear hF hB h120 HQ hi0 hq39 hl39
                  go_enter Tryz.func81, Tryz.ntmps81
                  go_wp2_with (go_at_call 124; refine (NU.out _).mono ?_; rintro e w1 ⟨rfl, rfl⟩)
                  refine bodyPost_ret (by simp [results, Tryz.results81, go_sem]; try rfl) rfl ?_
                  exact RReadO.no HN.out 120 rfl (by go_grown)
              · have hf : ((s[1].toNat : Int) == 39) = false := u8_ne hq39
                have hf2 : ((s[1].toNat : Int) != 39) = true := by rw [bne, hf]; rfl
                have HN : Hid (rread s.data.toList = none) := Lib.hid (by rw [HQ.out, rquo_no hF (.inr (.inl (by rw [idxk s 1 (by omega)]; simpa using hq39)))])
                clear hF hB h120 HQ hi0 hq39
                go_enter Tryz.func81, Tryz.ntmps81
                go_wp2_with (go_at_call 124; refine (NU.out _).mono ?_; rintro e w1 ⟨rfl, rfl⟩)
                refine bodyPost_ret (by simp [results, Tryz.results81, go_sem]; try rfl) rfl ?_
                exact RReadO.no HN.out 120 rfl (by go_grown)
          · have hqx : ((s[0].toNat : Int) == 120) = false := u8_ne h120
            have hB : rblobB s.data.toList = false := by simp [rblobB, hi0, h120]
            have hF : rfrom s.data.toList = 0 := by simp [rfrom, hB]
            by_cases hs2 : s.size < 0 + 2
            · have HN : Hid (rread s.data.toList = none) := Lib.hid (by rw [HQ.out, rquo_no hF (.inl (by simpa using hs2))])
              clear hF hB h120 HQ hi0
              go_enter Tryz.func81, Tryz.ntmps81
              go_wp2_with (go_at_call 124; refine (NU.out _).mono ?_; rintro e w1 ⟨rfl, rfl⟩)
              refine bodyPost_ret (by simp [results, Tryz.results81, go_sem]; try rfl) rfl ?_
              exact RReadO.no HN.out 120 rfl (by go_grown)
            · by_cases hq39 : s[0] = 39
              · have hf : ((s[0].toNat : Int) == 39) = true := u8_eq hq39
                have hf2 : ((s[0].toNat : Int) != 39) = false := by rw [bne, hf]; rfl
                by_cases hl39 : s[s.size - 1] = 39
                · have hg : ((s[s.size - 1].toNat : Int) == 39) = true := u8_eq hl39
                  have hg2 : ((s[s.size - 1].toNat : Int) != 39) = false := by rw [bne, hg]; rfl
                  have HR : Hid (rread s.data.toList = match rbytes false (innerL s.data.toList 1) with | none => none | some b => if b.length ≤ 400 then some ⟨2, 0, ⟨b.toArray⟩⟩ else none) := Lib.hid (by
                    rw [HQ.out, rquo_yes hF (by simpa using hs2) (by rw [idxk s 0 (by omega), hq39]) (by rw [size_len, idxk s (s.size - 1) (by omega), hl39]), hB]; simp only [rkind, hB]; rfl)
                  have BY := Lib.hid (Bytes_any false (s.extract 1 (s.size - 1)) (by rw [ByteArray.size_extract]; omega))
                  have hEx : (s.extract 1 (s.size - 1)).data.toList = innerL s.data.toList 1 := by rw [extract_list]; rfl
                  rw [hEx] at BY
                  clear hF hB h120 HQ hi0 hq39 hl39 hEx
                  cases ho : rbytes false (innerL s.data.toList 1) with
                  | none =>
                    rw [ho] at BY HR
                    have HN : Hid (rread s.data.toList = none) := Lib.hid HR.out
                    clear HR ho
                    go_enter Tryz.func81, Tryz.ntmps81
                    go_wp2_with (first
                      | (go_at_call 124; refine (NU.out _).mono ?_; rintro e w1 ⟨rfl, rfl⟩)
                      | (go_at_call 80; refine (BY.out _).mono ?_; rintro e w2 ⟨x, ⟨rfl, hb2⟩, -⟩; have hbx : Below (w.heap.size + 1) _ w2 := hb2.mono (by simp); have hz2 : w.heap.size + 1 ≤ w2.heap.size := (by have := hb2.size; simpa using this); have hb3 := hbx.alloc hz2 (.cells #[.int .i64 2, .int .i64 0, .string x] 80); obtain ⟨c0, c1, c2, f0, f1, f2⟩ := box3 hb3))
                    refine bodyPost_ret (by simp [results, Tryz.results81, go_sem, c0, c1, c2]; try rfl) rfl ?_
                    exact RReadO.no HN.out 120 rfl (box_set3 hb3)
                  | some y =>
                    rw [ho] at BY HR
                    have HY : Hid (rread s.data.toList = if y.length ≤ 400 then some ⟨2, 0, ⟨y.toArray⟩⟩ else none) := Lib.hid HR.out
                    clear HR ho
                    have HM : Hid ((V.mk 2 0 ⟨y.toArray⟩).may = decide (y.length ≤ 400)) := Lib.hid (may_kind y (by decide))
                    by_cases hy : y.length ≤ 400
                    · have HN : Hid (rread s.data.toList = some ⟨2, 0, ⟨y.toArray⟩⟩) := Lib.hid (by rw [HY.out, if_pos hy])
                      have HM2 : Hid ((V.mk 2 0 ⟨y.toArray⟩).may = true) := Lib.hid (by rw [HM.out]; simpa using hy)
                      clear HY HM hy
                      go_enter Tryz.func81, Tryz.ntmps81
                      go_wp2_with (first
                        | (go_at_call 124; refine (NU.out _).mono ?_; rintro e w1 ⟨rfl, rfl⟩)
                        | (go_at_call 80; refine (BY.out _).mono ?_; rintro e w2 ⟨x, ⟨rfl, hb2⟩, hx⟩; have hxe := hx y rfl; clear hx; subst hxe; have hbx : Below (w.heap.size + 1) _ w2 := hb2.mono (by simp); have hz2 : w.heap.size + 1 ≤ w2.heap.size := by have := hb2.size; simpa using this)
                        | (go_at_call 119; refine (RMay_any ⟨2, 0, ⟨y.toArray⟩⟩ _).mono ?_; rw [HM2.out]; rintro e w3 ⟨rfl, hb3⟩; have hb3x : Below (w2.heap.size + 1) _ w3 := hb3.mono (by simp); have hb4 : Below (w.heap.size + 1) _ w3 := (hbx.alloc hz2 _).trans (hb3x.mono (by omega)); obtain ⟨c0, c1, c2, f0, f1, f2⟩ := box3 hb4; obtain ⟨d0, d1, d2, -, -, -⟩ := box3 hb3x))
                      refine bodyPost_ret (by simp [results, Tryz.results81, go_sem, c0, c1, c2]; try rfl) rfl ?_
                      exact RReadO.yes HN.out (box_set3 hb4)
                    · have HN : Hid (rread s.data.toList = none) := Lib.hid (by rw [HY.out, if_neg hy])
                      have HM2 : Hid ((V.mk 2 0 ⟨y.toArray⟩).may = false) := Lib.hid (by rw [HM.out]; simpa using hy)
                      clear HY HM hy
                      go_enter Tryz.func81, Tryz.ntmps81
                      go_wp2_with (first
                        | (go_at_call 124; refine (NU.out _).mono ?_; rintro e w1 ⟨rfl, rfl⟩)
                        | (go_at_call 80; refine (BY.out _).mono ?_; rintro e w2 ⟨x, ⟨rfl, hb2⟩, hx⟩; have hxe := hx y rfl; clear hx; subst hxe; have hbx : Below (w.heap.size + 1) _ w2 := hb2.mono (by simp); have hz2 : w.heap.size + 1 ≤ w2.heap.size := by have := hb2.size; simpa using this)
                        | (go_at_call 119; refine (RMay_any ⟨2, 0, ⟨y.toArray⟩⟩ _).mono ?_; rw [HM2.out]; rintro e w3 ⟨rfl, hb3⟩; have hb3x : Below (w2.heap.size + 1) _ w3 := hb3.mono (by simp); have hb4 : Below (w.heap.size + 1) _ w3 := (hbx.alloc hz2 _).trans (hb3x.mono (by omega)); obtain ⟨c0, c1, c2, f0, f1, f2⟩ := box3 hb4; obtain ⟨d0, d1, d2, -, -, -⟩ := box3 hb3x))
                      refine bodyPost_ret (by simp [results, Tryz.results81, go_sem, c0, c1, c2]; try rfl) rfl ?_
                      exact RReadO.no HN.out 120 rfl (box_set3 hb4)
                · have hg : ((s[s.size - 1].toNat : Int) == 39) = false := u8_ne hl39
                  have hg2 : ((s[s.size - 1].toNat : Int) != 39) = true := by rw [bne, hg]; rfl
                  have HN : Hid (rread s.data.toList = none) := Lib.hid (by rw [HQ.out, rquo_no hF (.inr (.inr (by rw [size_len, idxk s (s.size - 1) (by omega)]; simpa using hl39)))])
                  clear hF hB h120 HQ hi0 hq39 hl39
                  go_enter Tryz.func81, Tryz.ntmps81
                  go_wp2_with (go_at_call 124; refine (NU.out _).mono ?_; rintro e w1 ⟨rfl, rfl⟩)
                  refine bodyPost_ret (by simp [results, Tryz.results81, go_sem]; try rfl) rfl ?_
                  exact RReadO.no HN.out 120 rfl (by go_grown)
              · have hf : ((s[0].toNat : Int) == 39) = false := u8_ne hq39
                have hf2 : ((s[0].toNat : Int) != 39) = true := by rw [bne, hf]; rfl
                have HN : Hid (rread s.data.toList = none) := Lib.hid (by rw [HQ.out, rquo_no hF (.inr (.inl (by rw [idxk s 0 (by omega)]; simpa using hq39)))])
                clear hF hB h120 HQ hi0 hq39
                go_enter Tryz.func81, Tryz.ntmps81
                go_wp2_with (go_at_call 124; refine (NU.out _).mono ?_; rintro e w1 ⟨rfl, rfl⟩)
                refine bodyPost_ret (by simp [results, Tryz.results81, go_sem]; try rfl) rfl ?_
                exact RReadO.no HN.out 120 rfl (by go_grown)
        · have hB : rblobB s.data.toList = false := by
            have : s.data.toList = [] := List.eq_nil_of_length_eq_zero (by rw [size_len]; omega)
            rw [this]; rfl
          have hF : rfrom s.data.toList = 0 := by simp [rfrom, hB]
          have HN : Hid (rread s.data.toList = none) := Lib.hid (by rw [HQ.out, rquo_no hF (.inl (by simp; omega))])
          have hzi : ¬ (0 : Int) < (s.size : Int) := by omega
          have hzj : (s.size : Int) < 2 := by omega
          clear hF hB HQ
          go_enter Tryz.func81, Tryz.ntmps81
          go_wp2_with (go_at_call 124; refine (NU.out _).mono ?_; rintro e w1 ⟨rfl, rfl⟩)
          refine bodyPost_ret (by simp [results, Tryz.results81, go_sem]; try rfl) rfl ?_
          exact RReadO.no HN.out 120 rfl (by go_grown)
end Go.Proofs.YtkkildkleleppaaGreatDoor
