/- The document's reader, walked: bureauref02.Read. The reader's part. -/
import Derived.Test.YtkkildkleleppaaGreatDoorJ19
import Derived.Test.YtkkildkleleppaaGreatDoorJ09
import Derived.Test.YtkkildkleleppaaGreatDoorJ11
import Derived.Test.YtkkildkleleppaaGreatDoorJ15
import Derived.Deep.RegionWith
namespace Go.Proofs.YtkkildkleleppaaGreatDoor
open Go.RowKit

theorem Bytes_any (b : Bool) (s : ByteArray) (hs : s.size ≤ 100000000) (w : World) : Calls Tryz.prog 80 #[.string s, .bool b] w (BytesEnd (rbytes b s.data.toList) w) := by
  cases b with
  | false => exact Bytes_text s hs w
  | true => exact Bytes_blob s hs w

/-- The document's value of a literal is told. -/
def RReadO (o : Option V) (w : World) (e : Ending) (w' : World) : Prop :=
  match o with
  | some v => Ret w (.tuple #[v.val, .int .i64 0]) e w'
  | none => ∃ n : Int, (n == 0) = false ∧ Ret w (.tuple #[(V.mk 0 0 ByteArray.empty).val, .int .i64 n]) e w'
theorem RReadO.yes {o : Option V} {v : V} {w w' : World} (h : o = some v) (hb : Below w.heap.size w w') : RReadO o w (.returned (.tuple #[.agg #[.int .i64 v.k, .int .i64 v.n, .string v.s], .int .i64 0])) w' := by subst h; exact ⟨rfl, hb⟩
theorem RReadO.no {o : Option V} {w w' : World} (h : o = none) (n : Int) (hn : (n == 0) = false) (hb : Below w.heap.size w w') : RReadO o w (.returned (.tuple #[.agg #[.int .i64 0, .int .i64 0, .string ⟨#[]⟩], .int .i64 n])) w' := by subst h; exact ⟨n, hn, rfl, hb⟩

theorem rread_long {l : List UInt8} (h : 1000 < l.length) : rread l = none := by simp [rread, h]
theorem rread_null {l : List UInt8} (h : l = [78, 85, 76, 76]) : rread l = some ⟨0, 0, ByteArray.empty⟩ := by subst h; rfl
theorem rread_num {l : List UInt8} {n : Int} (h : ¬ 1000 < l.length) (h2 : l ≠ [78, 85, 76, 76]) (h3 : rnum l = some n) : rread l = some ⟨1, n, ByteArray.empty⟩ := by simp [rread, h, h2, h3]
theorem rread_quo {l : List UInt8} (h : ¬ 1000 < l.length) (h2 : l ≠ [78, 85, 76, 76]) (h3 : rnum l = none) : rread l = match rquo l with | none => none | some b => if b.length ≤ 400 then some ⟨rkind l, 0, ⟨b.toArray⟩⟩ else none := by unfold rread; rw [if_neg h, if_neg h2, h3]; rfl
theorem rquo_no {l : List UInt8} {F : Nat} (hF : rfrom l = F) (h : l.length < F + 2 ∨ l[F]? ≠ some 39 ∨ l[l.length - 1]? ≠ some 39) : rquo l = none := by
  unfold rquo; rw [hF, if_pos h]
theorem rquo_yes {l : List UInt8} {F : Nat} (hF : rfrom l = F) (h : ¬ l.length < F + 2) (h2 : l[F]? = some 39) (h3 : l[l.length - 1]? = some 39) : rquo l = rbytes (rblobB l) (innerL l (F + 1)) := by
  unfold rquo; rw [hF, if_neg]
  rintro (a | a | a)
  · exact h a
  · exact a h2
  · exact a h3
theorem may_kind {k : Int} (x : List UInt8) (h : k = 2 ∨ k = 3) : (V.mk k 0 ⟨x.toArray⟩).may = decide (x.length ≤ 400) := by
  have h0 : k ≠ 0 := by omega
  have h1 : k ≠ 1 := by omega
  simp only [V.may, mayB, h0, h1, h, if_true, if_false]
  simp


set_option maxRecDepth 100000 in
set_option maxHeartbeats 2000000 in
theorem RRead_any (s : ByteArray) (hs : s.size ≤ 100000000) (w : World) : Calls Tryz.prog 81 #[.string s] w (RReadO (rread s.data.toList) w) := by
  by_cases hl : 1000 < s.size
  · have HN := Lib.hid (rread_long (l := s.data.toList) (by simpa using hl))
    have hi : (1000 : Int) < (s.size : Int) := by omega
    go_enter Tryz.func81, Tryz.ntmps81
    go_wp2
    refine bodyPost_ret (by simp [results, Tryz.results81, go_sem]; try rfl) rfl ?_
    exact RReadO.no HN.out 3 rfl (by go_grown)
  · have hlL : ¬ 1000 < s.data.toList.length := by simpa using hl
    have hi : ¬ (1000 : Int) < (s.size : Int) := by omega
    by_cases hnl : s.data.toList = [78, 85, 76, 76]
    · have HN := Lib.hid (rread_null hnl)
      have hq : (s.toList == [78, 85, 76, 76]) = true := by rw [toList_data, hnl]; rfl
      clear hnl
      go_enter Tryz.func81, Tryz.ntmps81
      go_wp2
      refine bodyPost_ret (by simp [results, Tryz.results81, go_sem]; try rfl) rfl ?_
      exact RReadO.yes HN.out (by go_grown)
    · have hq : (s.toList == [78, 85, 76, 76]) = false := by rw [toList_data]; exact beq_eq_false_iff_ne.2 hnl
      have NU := Lib.hid (Number_any s (by omega))
      unfold RNum at NU
      cases hn : rnum s.data.toList with
      | some n =>
        rw [hn] at NU
        have HN := Lib.hid (rread_num hlL hnl hn)
        clear hnl hn
        go_enter Tryz.func81, Tryz.ntmps81
        go_wp2_with (go_at_call 124; refine (NU.out _).mono ?_; rintro e w1 ⟨rfl, rfl⟩)
        refine bodyPost_ret (by simp [results, Tryz.results81, go_sem]; try rfl) rfl ?_
        exact RReadO.yes HN.out (by go_grown)
      | none =>
        rw [hn] at NU
        have HQ := Lib.hid (rread_quo hlL hnl hn)
        clear hnl hn
        by_cases hz : 0 < s.size
        · have hi0 := idx0 s hz
          have hzi : (0 : Int) < (s.size : Int) := by omega
          by_cases h120 : s[0] = 120
          · have hqx : ((s[0].toNat : Int) == 120) = true := u8_eq h120
            have hB : rblobB s.data.toList = true := by simp [rblobB, hi0, h120]
            have hF : rfrom s.data.toList = 1 := by simp [rfrom, hB]
            by_cases hs2 : s.size < 1 + 2
            · have HN : Hid (rread s.data.toList = none) := Lib.hid (by rw [HQ.out, rquo_no hF (.inl (by simpa using hs2))])
              clear hF hB h120 HQ hi0
              go_enter Tryz.func81, Tryz.ntmps81
              go_wp2_with (go_at_call 124; refine (NU.out _).mono ?_; rintro e w1 ⟨rfl, rfl⟩)
              refine bodyPost_ret (by simp [results, Tryz.results81, go_sem]; try rfl) rfl ?_
              exact RReadO.no HN.out 120 rfl (by go_grown)
            · by_cases hq39 : s[1] = 39
              · have hf : ((s[1].toNat : Int) == 39) = true := u8_eq hq39
                have hf2 : ((s[1].toNat : Int) != 39) = false := by rw [bne, hf]; rfl
                by_cases hl39 : s[s.size - 1] = 39
                · have hg : ((s[s.size - 1].toNat : Int) == 39) = true := u8_eq hl39
                  have hg2 : ((s[s.size - 1].toNat : Int) != 39) = false := by rw [bne, hg]; rfl
                  have HR : Hid (rread s.data.toList = match rbytes true (innerL s.data.toList 2) with | none => none | some b => if b.length ≤ 400 then some ⟨3, 0, ⟨b.toArray⟩⟩ else none) := Lib.hid (by
                    rw [HQ.out, rquo_yes hF (by simpa using hs2) (by rw [idxk s 1 (by omega), hq39]) (by rw [size_len, idxk s (s.size - 1) (by omega), hl39]), hB]; simp only [rkind, hB]; rfl)
                  have BY := Lib.hid (Bytes_any true (s.extract 2 (s.size - 1)) (by rw [ByteArray.size_extract]; omega))
                  have hEx : (s.extract 2 (s.size - 1)).data.toList = innerL s.data.toList 2 := by rw [extract_list]; rfl
                  rw [hEx] at BY
                  clear hF hB h120 HQ hi0 hq39 hl39 hEx
                  cases ho : rbytes true (innerL s.data.toList 2) with
                  | none =>
                    rw [ho] at BY HR
                    have HN : Hid (rread s.data.toList = none) := Lib.hid HR.out
                    clear HR ho
                    go_enter Tryz.func81, Tryz.ntmps81
                    go_wp2_with (first
                      | (go_at_call 124; refine (NU.out _).mono ?_; rintro e w1 ⟨rfl, rfl⟩)
                      | (go_at_call 80; refine (BY.out _).mono ?_; rintro e w2 ⟨x, ⟨rfl, hb2⟩, -⟩; have hbx : Below (w.heap.size + 1) _ w2 := hb2.mono (by simp); have hz2 : w.heap.size + 1 ≤ w2.heap.size := (by have := hb2.size; simpa using this); have hb3 := hbx.alloc hz2 (.cells #[.int .i64 3, .int .i64 0, .string x] 80); obtain ⟨c0, c1, c2, f0, f1, f2⟩ := box3 hb3))
                    refine bodyPost_ret (by simp [results, Tryz.results81, go_sem, c0, c1, c2]; try rfl) rfl ?_
                    exact RReadO.no HN.out 120 rfl (box_set3 hb3)
                  | some y =>
                    rw [ho] at BY HR
                    have HY : Hid (rread s.data.toList = if y.length ≤ 400 then some ⟨3, 0, ⟨y.toArray⟩⟩ else none) := Lib.hid HR.out
                    clear HR ho
                    have HM : Hid ((V.mk 3 0 ⟨y.toArray⟩).may = decide (y.length ≤ 400)) := Lib.hid (may_kind y (by decide))
                    by_cases hy : y.length ≤ 400
                    · have HN : Hid (rread s.data.toList = some ⟨3, 0, ⟨y.toArray⟩⟩) := Lib.hid (by rw [HY.out, if_pos hy])
                      have HM2 : Hid ((V.mk 3 0 ⟨y.toArray⟩).may = true) := Lib.hid (by rw [HM.out]; simpa using hy)
                      clear HY HM hy
                      go_enter Tryz.func81, Tryz.ntmps81
                      go_wp2_with (first
                        | (go_at_call 124; refine (NU.out _).mono ?_; rintro e w1 ⟨rfl, rfl⟩)
                        | (go_at_call 80; refine (BY.out _).mono ?_; rintro e w2 ⟨x, ⟨rfl, hb2⟩, hx⟩; have hxe := hx y rfl; clear hx; subst hxe; have hbx : Below (w.heap.size + 1) _ w2 := hb2.mono (by simp); have hz2 : w.heap.size + 1 ≤ w2.heap.size := by have := hb2.size; simpa using this)
                        | (go_at_call 119; refine (RMay_any ⟨3, 0, ⟨y.toArray⟩⟩ _).mono ?_; rw [HM2.out]; rintro e w3 ⟨rfl, hb3⟩; have hb3x : Below (w2.heap.size + 1) _ w3 := hb3.mono (by simp); have hb4 : Below (w.heap.size + 1) _ w3 := (hbx.alloc hz2 _).trans (hb3x.mono (by omega)); obtain ⟨c0, c1, c2, f0, f1, f2⟩ := box3 hb4; obtain ⟨d0, d1, d2, -, -, -⟩ := box3 hb3x))
                      refine bodyPost_ret (by simp [results, Tryz.results81, go_sem, c0, c1, c2]; try rfl) rfl ?_
                      exact RReadO.yes HN.out (box_set3 hb4)
                    · have HN : Hid (rread s.data.toList = none) := Lib.hid (by rw [HY.out, if_neg hy])
                      have HM2 : Hid ((V.mk 3 0 ⟨y.toArray⟩).may = false) := Lib.hid (by rw [HM.out]; simpa using hy)
                      clear HY HM hy
                      go_enter Tryz.func81, Tryz.ntmps81
                      go_wp2_with (first
                        | (go_at_call 124; refine (NU.out _).mono ?_; rintro e w1 ⟨rfl, rfl⟩)
                        | (go_at_call 80; refine (BY.out _).mono ?_; rintro e w2 ⟨x, ⟨rfl, hb2⟩, hx⟩; have hxe := hx y rfl; clear hx; subst hxe; have hbx : Below (w.heap.size + 1) _ w2 := hb2.mono (by simp); have hz2 : w.heap.size + 1 ≤ w2.heap.size := by have := hb2.size; simpa using this)
                        | (go_at_call 119; refine (RMay_any ⟨3, 0, ⟨y.toArray⟩⟩ _).mono ?_; rw [HM2.out]; rintro e w3 ⟨rfl, hb3⟩; have hb3x : Below (w2.heap.size + 1) _ w3 := hb3.mono (by simp); have hb4 : Below (w.heap.size + 1) _ w3 := (hbx.alloc hz2 _).trans (hb3x.mono (by omega)); obtain ⟨c0, c1, c2, f0, f1, f2⟩ := box3 hb4; obtain ⟨d0, d1, d2, -, -, -⟩ := box3 hb3x))
                      refine bodyPost_ret (by simp [results, Tryz.results81, go_sem, c0, c1, c2]; try rfl) rfl ?_
                      exact RReadO.no HN.out 120 rfl (box_set3 hb4)
                · have hg : ((s[s.size - 1].toNat : Int) == 39) = false := u8_ne hl39
                  have hg2 : ((s[s.size - 1].toNat : Int) != 39) = true := by rw [bne, hg]; rfl
                  have HN : Hid (rread s.data.toList = none) := Lib.hid (by rw [HQ.out, rquo_no hF (.inr (.inr (by rw [size_len, idxk s (s.size - 1) (by omega)]; simpa using hl39)))])
                  clear hF hB h120 HQ hi0 hq39 hl39
                  go_enter Tryz.func81, Tryz.ntmps81
                  go_wp2_with (go_at_call 124; refine (NU.out _).mono ?_; rintro e w1 ⟨rfl, rfl⟩)
                  refine bodyPost_ret (by simp [results, Tryz.results81, go_sem]; try rfl) rfl ?_
                  exact RReadO.no HN.out 120 rfl (by go_grown)
              · have hf : ((s[1].toNat : Int) == 39) = false := u8_ne hq39
                have hf2 : ((s[1].toNat : Int) != 39) = true := by rw [bne, hf]; rfl
                have HN : Hid (rread s.data.toList = none) := Lib.hid (by rw [HQ.out, rquo_no hF (.inr (.inl (by rw [idxk s 1 (by omega)]; simpa using hq39)))])
                clear hF hB h120 HQ hi0 hq39
                go_enter Tryz.func81, Tryz.ntmps81
                go_wp2_with (go_at_call 124; refine (NU.out _).mono ?_; rintro e w1 ⟨rfl, rfl⟩)
                refine bodyPost_ret (by simp [results, Tryz.results81, go_sem]; try rfl) rfl ?_
                exact RReadO.no HN.out 120 rfl (by go_grown)
          · have hqx : ((s[0].toNat : Int) == 120) = false := u8_ne h120
            have hB : rblobB s.data.toList = false := by simp [rblobB, hi0, h120]
            have hF : rfrom s.data.toList = 0 := by simp [rfrom, hB]
            by_cases hs2 : s.size < 0 + 2
            · have HN : Hid (rread s.data.toList = none) := Lib.hid (by rw [HQ.out, rquo_no hF (.inl (by simpa using hs2))])
              clear hF hB h120 HQ hi0
              go_enter Tryz.func81, Tryz.ntmps81
              go_wp2_with (go_at_call 124; refine (NU.out _).mono ?_; rintro e w1 ⟨rfl, rfl⟩)
              refine bodyPost_ret (by simp [results, Tryz.results81, go_sem]; try rfl) rfl ?_
              exact RReadO.no HN.out 120 rfl (by go_grown)
            · by_cases hq39 : s[0] = 39
              · have hf : ((s[0].toNat : Int) == 39) = true := u8_eq hq39
                have hf2 : ((s[0].toNat : Int) != 39) = false := by rw [bne, hf]; rfl
                by_cases hl39 : s[s.size - 1] = 39
                · have hg : ((s[s.size - 1].toNat : Int) == 39) = true := u8_eq hl39
                  have hg2 : ((s[s.size - 1].toNat : Int) != 39) = false := by rw [bne, hg]; rfl
                  have HR : Hid (rread s.data.toList = match rbytes false (innerL s.data.toList 1) with | none => none | some b => if b.length ≤ 400 then some ⟨2, 0, ⟨b.toArray⟩⟩ else none) := Lib.hid (by
                    rw [HQ.out, rquo_yes hF (by simpa using hs2) (by rw [idxk s 0 (by omega), hq39]) (by rw [size_len, idxk s (s.size - 1) (by omega), hl39]), hB]; simp only [rkind, hB]; rfl)
                  have BY := Lib.hid (Bytes_any false (s.extract 1 (s.size - 1)) (by rw [ByteArray.size_extract]; omega))
                  have hEx : (s.extract 1 (s.size - 1)).data.toList = innerL s.data.toList 1 := by rw [extract_list]; rfl
                  rw [hEx] at BY
                  clear hF hB h120 HQ hi0 hq39 hl39 hEx
                  cases ho : rbytes false (innerL s.data.toList 1) with
                  | none =>
                    rw [ho] at BY HR
                    have HN : Hid (rread s.data.toList = none) := Lib.hid HR.out
                    clear HR ho
                    go_enter Tryz.func81, Tryz.ntmps81
                    go_wp2_with (first
                      | (go_at_call 124; refine (NU.out _).mono ?_; rintro e w1 ⟨rfl, rfl⟩)
                      | (go_at_call 80; refine (BY.out _).mono ?_; rintro e w2 ⟨x, ⟨rfl, hb2⟩, -⟩; have hbx : Below (w.heap.size + 1) _ w2 := hb2.mono (by simp); have hz2 : w.heap.size + 1 ≤ w2.heap.size := (by have := hb2.size; simpa using this); have hb3 := hbx.alloc hz2 (.cells #[.int .i64 2, .int .i64 0, .string x] 80); obtain ⟨c0, c1, c2, f0, f1, f2⟩ := box3 hb3))
                    refine bodyPost_ret (by simp [results, Tryz.results81, go_sem, c0, c1, c2]; try rfl) rfl ?_
                    exact RReadO.no HN.out 120 rfl (box_set3 hb3)
                  | some y =>
                    rw [ho] at BY HR
                    have HY : Hid (rread s.data.toList = if y.length ≤ 400 then some ⟨2, 0, ⟨y.toArray⟩⟩ else none) := Lib.hid HR.out
                    clear HR ho
                    have HM : Hid ((V.mk 2 0 ⟨y.toArray⟩).may = decide (y.length ≤ 400)) := Lib.hid (may_kind y (by decide))
                    by_cases hy : y.length ≤ 400
                    · have HN : Hid (rread s.data.toList = some ⟨2, 0, ⟨y.toArray⟩⟩) := Lib.hid (by rw [HY.out, if_pos hy])
                      have HM2 : Hid ((V.mk 2 0 ⟨y.toArray⟩).may = true) := Lib.hid (by rw [HM.out]; simpa using hy)
                      clear HY HM hy
                      go_enter Tryz.func81, Tryz.ntmps81
                      go_wp2_with (first
                        | (go_at_call 124; refine (NU.out _).mono ?_; rintro e w1 ⟨rfl, rfl⟩)
                        | (go_at_call 80; refine (BY.out _).mono ?_; rintro e w2 ⟨x, ⟨rfl, hb2⟩, hx⟩; have hxe := hx y rfl; clear hx; subst hxe; have hbx : Below (w.heap.size + 1) _ w2 := hb2.mono (by simp); have hz2 : w.heap.size + 1 ≤ w2.heap.size := by have := hb2.size; simpa using this)
                        | (go_at_call 119; refine (RMay_any ⟨2, 0, ⟨y.toArray⟩⟩ _).mono ?_; rw [HM2.out]; rintro e w3 ⟨rfl, hb3⟩; have hb3x : Below (w2.heap.size + 1) _ w3 := hb3.mono (by simp); have hb4 : Below (w.heap.size + 1) _ w3 := (hbx.alloc hz2 _).trans (hb3x.mono (by omega)); obtain ⟨c0, c1, c2, f0, f1, f2⟩ := box3 hb4; obtain ⟨d0, d1, d2, -, -, -⟩ := box3 hb3x))
                      refine bodyPost_ret (by simp [results, Tryz.results81, go_sem, c0, c1, c2]; try rfl) rfl ?_
                      exact RReadO.yes HN.out (box_set3 hb4)
                    · have HN : Hid (rread s.data.toList = none) := Lib.hid (by rw [HY.out, if_neg hy])
                      have HM2 : Hid ((V.mk 2 0 ⟨y.toArray⟩).may = false) := Lib.hid (by rw [HM.out]; simpa using hy)
                      clear HY HM hy
                      go_enter Tryz.func81, Tryz.ntmps81
                      go_wp2_with (first
                        | (go_at_call 124; refine (NU.out _).mono ?_; rintro e w1 ⟨rfl, rfl⟩)
                        | (go_at_call 80; refine (BY.out _).mono ?_; rintro e w2 ⟨x, ⟨rfl, hb2⟩, hx⟩; have hxe := hx y rfl; clear hx; subst hxe; have hbx : Below (w.heap.size + 1) _ w2 := hb2.mono (by simp); have hz2 : w.heap.size + 1 ≤ w2.heap.size := by have := hb2.size; simpa using this)
                        | (go_at_call 119; refine (RMay_any ⟨2, 0, ⟨y.toArray⟩⟩ _).mono ?_; rw [HM2.out]; rintro e w3 ⟨rfl, hb3⟩; have hb3x : Below (w2.heap.size + 1) _ w3 := hb3.mono (by simp); have hb4 : Below (w.heap.size + 1) _ w3 := (hbx.alloc hz2 _).trans (hb3x.mono (by omega)); obtain ⟨c0, c1, c2, f0, f1, f2⟩ := box3 hb4; obtain ⟨d0, d1, d2, -, -, -⟩ := box3 hb3x))
                      refine bodyPost_ret (by simp [results, Tryz.results81, go_sem, c0, c1, c2]; try rfl) rfl ?_
                      exact RReadO.no HN.out 120 rfl (box_set3 hb4)
                · have hg : ((s[s.size - 1].toNat : Int) == 39) = false := u8_ne hl39
                  have hg2 : ((s[s.size - 1].toNat : Int) != 39) = true := by rw [bne, hg]; rfl
                  have HN : Hid (rread s.data.toList = none) := Lib.hid (by rw [HQ.out, rquo_no hF (.inr (.inr (by rw [size_len, idxk s (s.size - 1) (by omega)]; simpa using hl39)))])
                  clear hF hB h120 HQ hi0 hq39 hl39
                  go_enter Tryz.func81, Tryz.ntmps81
                  go_wp2_with (go_at_call 124; refine (NU.out _).mono ?_; rintro e w1 ⟨rfl, rfl⟩)
                  refine bodyPost_ret (by simp [results, Tryz.results81, go_sem]; try rfl) rfl ?_
                  exact RReadO.no HN.out 120 rfl (by go_grown)
              · have hf : ((s[0].toNat : Int) == 39) = false := u8_ne hq39
                have hf2 : ((s[0].toNat : Int) != 39) = true := by rw [bne, hf]; rfl
                have HN : Hid (rread s.data.toList = none) := Lib.hid (by rw [HQ.out, rquo_no hF (.inr (.inl (by rw [idxk s 0 (by omega)]; simpa using hq39)))])
                clear hF hB h120 HQ hi0 hq39
                go_enter Tryz.func81, Tryz.ntmps81
                go_wp2_with (go_at_call 124; refine (NU.out _).mono ?_; rintro e w1 ⟨rfl, rfl⟩)
                refine bodyPost_ret (by simp [results, Tryz.results81, go_sem]; try rfl) rfl ?_
                exact RReadO.no HN.out 120 rfl (by go_grown)
        · have hB : rblobB s.data.toList = false := by
            have : s.data.toList = [] := List.eq_nil_of_length_eq_zero (by rw [size_len]; omega)
            rw [this]; rfl
          have hF : rfrom s.data.toList = 0 := by simp [rfrom, hB]
          have HN : Hid (rread s.data.toList = none) := Lib.hid (by rw [HQ.out, rquo_no hF (.inl (by simp; omega))])
          have hzi : ¬ (0 : Int) < (s.size : Int) := by omega
          have hzj : (s.size : Int) < 2 := by omega
          clear hF hB HQ
          go_enter Tryz.func81, Tryz.ntmps81
          go_wp2_with (go_at_call 124; refine (NU.out _).mono ?_; rintro e w1 ⟨rfl, rfl⟩)
          refine bodyPost_ret (by simp [results, Tryz.results81, go_sem]; try rfl) rfl ?_
          exact RReadO.no HN.out 120 rfl (by go_grown)
end Go.Proofs.YtkkildkleleppaaGreatDoor
namespace Go.Proofs.YtkkildkleleppaaGreatDoor
open Go.RowKit

/-- A part is told: the text, the values in a row of the call's own. -/
def PartEnd (b : Nat) (s : ByteArray) (w : World) (o : Option (T × Nat)) (e : Ending) (w' : World) : Prop :=
  match o with
  | some (t, k) => ∃ pv, e = .returned (.agg #[.string t.sql, pv]) ∧ w'.ownsRow w.heap.size 80 3 pv t.ps.length (vcells t.ps) ∧ IsR w' b s k ∧ Moved b w w'
  | none => e = .panicked wrongP ∧ Moved b w w'

/-- What a part tells behind its text. -/
def tailS (l : List UInt8) (j : Nat) (x : ByteArray) : Option (T × Nat) :=
  match paramsS (l.length + 1) l j with
  | none => none
  | some y => if nx l y.2 10 = true ∧ (T.mk x y.1).may = true then some (T.mk x y.1, y.2 + 1) else none
theorem partS_tail {l x : List UInt8} {k j : Nat} (h : qtd l k = some (x, j)) : partS l k = tailS l j ⟨x.toArray⟩ := by
  unfold partS tailS; rw [h]; rfl
theorem partS_qno {l : List UInt8} {k : Nat} (h : qtd l k = none) : partS l k = none := by unfold partS; rw [h]
theorem tailS_none {l : List UInt8} {j : Nat} {x : ByteArray} (h : paramsS (l.length + 1) l j = none) : tailS l j x = none := by unfold tailS; rw [h]
theorem tailS_some {l : List UInt8} {j k : Nat} {x : ByteArray} {vs : List V} (h : paramsS (l.length + 1) l j = some (vs, k)) : tailS l j x = if nx l k 10 = true ∧ (T.mk x vs).may = true then some (T.mk x vs, k + 1) else none := by unfold tailS; rw [h]
theorem PartEnd.no {b : Nat} {s : ByteArray} {w w' : World} {o : Option (T × Nat)} (h : o = none) (hm : Moved b w w') : PartEnd b s w o (.panicked wrongP) w' := by subst h; exact ⟨rfl, hm⟩
theorem PartEnd.yes {b : Nat} {s : ByteArray} {w w' : World} {o : Option (T × Nat)} {t : T} {k : Nat} {pv : Value} (h : o = some (t, k)) (ho : w'.ownsRow w.heap.size 80 3 pv t.ps.length (vcells t.ps)) (hr : IsR w' b s k) (hm : Moved b w w') : PartEnd b s w o (.returned (.agg #[.string t.sql, pv])) w' := by subst h; exact ⟨pv, rfl, ho, hr, hm⟩
/-- The box of what is told so far. -/
def TBox (w : World) (g : Nat) (sql : ByteArray) (pv : Value) : Prop := w.heap[g]? = some (.cells #[.string sql, pv] 71 (0, 0))
theorem TBox.cells {w : World} {g : Nat} {sql : ByteArray} {pv : Value} (h : TBox w g sql pv) : w.cell? ⟨g, 0, none⟩ = some (.string sql) ∧ w.cell? ⟨g, 1, none⟩ = some pv ∧ w.frozen? ⟨g, 0, none⟩ = false ∧ w.frozen? ⟨g, 1, none⟩ = false :=
  ⟨cell_of_row w g 0 _ _ _ h, cell_of_row w g 1 _ _ _ h, by unfold World.frozen?; rw [h]; rfl, by unfold World.frozen?; rw [h]; rfl⟩
theorem TBox.lt {w : World} {g : Nat} {sql : ByteArray} {pv : Value} (h : TBox w g sql pv) : g < w.heap.size := (Array.getElem?_eq_some_iff.1 h).1
theorem TBox.moved {w w' : World} {b g : Nat} {sql : ByteArray} {pv : Value} (h : TBox w g sql pv) (hm : Moved b w w') (hb : b ≠ g) : TBox w' g sql pv :=
  (hm.block g h.lt (fun e => by injection e with e; exact hb e.symm)).trans h
theorem TBox.below {w w' : World} {g : Nat} {sql : ByteArray} {pv : Value} (h : TBox w g sql pv) (hb : Below w.heap.size w w') : TBox w' g sql pv := (hb.block g h.lt).trans h
theorem TBox.new (w : World) (sql : ByteArray) (pv : Value) : TBox (w.alloc (.cells #[.string sql, pv] 71)) w.heap.size sql pv := heap_alloc_new w _
theorem TBox.set {w : World} {g : Nat} {sql : ByteArray} {pv : Value} (h : TBox w g sql pv) (pv' : Value) : TBox (w.setCell ⟨g, 1, none⟩ pv') g sql pv' := heap_setCell_same w g 1 _ _ pv' h
theorem TBox.setO {w : World} {g : Nat} {sql : ByteArray} {pv : Value} (h : TBox w g sql pv) {p : Addr} (hp : g ≠ p.block) (v : Value) : TBox (w.setCell p v) g sql pv := (heap_setCell_other w p g v hp).trans h
/-- A row's block is no block of cells of another type. -/
theorem own_other {e T : TypeId} {w : World} {B size n g : Nat} {v : Value} {xs : List Value} {cs : Array Value} {fr : Nat × Nat} (h : w.ownsRow B e size v n xs) (hg : w.heap[g]? = some (.cells cs T fr)) (hne : e ≠ T) : v.ownBlock = none ∨ v.ownBlock ≠ some g := by
  rcases h.2 with ⟨rfl, _⟩ | ⟨g', cap, cur, rfl, _, hg', _⟩
  · exact .inl rfl
  · right
    simp only [Value.ownBlock, ne_eq, Option.some.injEq]
    intro heq
    subst heq
    rw [hg] at hg'
    injection hg' with h1
    injection h1 with _ h2
    exact hne h2.symm
theorem TBox.grown {w w' : World} {g B size n : Nat} {sql : ByteArray} {pv v : Value} {xs : List Value} (h : TBox w g sql pv) (ho : w.ownsRow B 80 size v n xs) (hg : w.grownBy w' v.ownBlock) : TBox w' g sql pv := by
  refine (hg.block g h.lt ?_).trans h
  rcases own_other ho h (by decide) with h1 | h1
  · rw [h1]; simp
  · exact fun e => h1 e.symm
theorem own_moved {e : TypeId} {w w' : World} {B b size n : Nat} {v : Value} {xs : List Value} (h : w.ownsRow B e size v n xs) (hm : Moved b w w') (hb : v.ownBlock = none ∨ v.ownBlock ≠ some b) : w'.ownsRow B e size v n xs := World.ownsRow.kept h hm hb
theorem own_far {e : TypeId} {w : World} {B b size n : Nat} {v : Value} {xs : List Value} (h : w.ownsRow B e size v n xs) (hb : b < B) : v.ownBlock = none ∨ v.ownBlock ≠ some b := by
  cases ho : v.ownBlock with
  | none => exact .inl rfl
  | some g => exact .inr (fun e => by injection e with e; subst e; have := (h.lt g ho).1; omega)
theorem Moved.grownR {e : TypeId} {w wr w' : World} {b size n : Nat} {v : Value} {xs : List Value} (h : Moved b w wr) (ho : wr.ownsRow w.heap.size e size v n xs) (hg : wr.grownBy w' v.ownBlock) : Moved b w w' :=
  ⟨hg.os.trans h.os, hg.tape.trans h.tape, hg.output.trans h.output, Nat.le_trans h.size hg.size, fun k hk hne =>
    (hg.block k (Nat.lt_of_lt_of_le hk h.size) (fun e => by have := (ho.lt k e.symm).1; omega)).trans (h.block k hk hne)⟩
theorem IsR.grownR {e : TypeId} {w w' : World} {b B k size n : Nat} {s : ByteArray} {v : Value} {xs : List Value} (h : IsR w b s k) (ho : w.ownsRow B e size v n xs) (hg : w.grownBy w' v.ownBlock) (hb : b < B) : IsR w' b s k := by
  have hk := hg.block b h.lt (fun e => by have := (ho.lt b e.symm).1; omega)
  refine ⟨?_, ?_, ?_⟩
  · have := h.1; unfold World.cell? at *; rw [hk]; exact this
  · have := h.2.1; unfold World.cell? at *; rw [hk]; exact this
  · have := h.2.2; exact (World.frozen?_of_block (w := w) (w' := w') (a := ⟨b, 1, none⟩) hk).trans this

/-- The loop over the values: memory. r: the result's box, g: the box of what is told. -/
structure PM (b : Nat) (s : ByteArray) (w : World) (r g : Nat) (x : ByteArray) (wr : World) (j : Nat) (vs : List V) (pv : Value) : Prop where
  rd : IsR wr b s j
  mv : Moved b w wr
  bx : TBox wr g x pv
  rb : TBox wr r ByteArray.empty (.slice none 0 0)
  own : wr.ownsRow w.heap.size 80 3 pv vs.length (vcells vs)
  ne : b < w.heap.size ∧ w.heap.size ≤ r ∧ r < g
theorem PM.below {b : Nat} {s : ByteArray} {w : World} {r g : Nat} {x : ByteArray} {wr wr' : World} {j : Nat} {vs : List V} {pv : Value} (h : PM b s w r g x wr j vs pv) (hb : Below wr.heap.size wr wr') : PM b s w r g x wr' j vs pv :=
  ⟨h.rd.below hb, h.mv.trans (Moved.of_below hb), h.bx.below hb, h.rb.below hb, own_kept h.own hb, h.ne⟩
theorem PM.drew {b : Nat} {s : ByteArray} {w : World} {r g : Nat} {x : ByteArray} {wr : World} {j : Nat} {vs : List V} {pv : Value} (h : PM b s w r g x wr j vs pv) : PM b s w r g x wr.drew j vs pv := h.below (below_drew (Below.refl _ _))
theorem PM.step {b : Nat} {s : ByteArray} {w : World} {r g : Nat} {x : ByteArray} {wr wr' : World} {j j' : Nat} {vs : List V} {pv : Value} (h : PM b s w r g x wr j vs pv) (hr : IsR wr' b s j') (hm : Moved b wr wr') : PM b s w r g x wr' j' vs pv :=
  ⟨hr, h.mv.trans hm, h.bx.moved hm (by have := h.ne; omega), h.rb.moved hm (by have := h.ne; omega), own_moved h.own hm (own_far h.own h.ne.1), h.ne⟩
theorem PM.at_ {b : Nat} {s : ByteArray} {w : World} {r g : Nat} {x : ByteArray} {wr : World} {j : Nat} {vs : List V} {pv : Value} (h : PM b s w r g x wr j vs pv) (j' : Nat) : PM b s w r g x (wr.setCell ⟨b, 1, none⟩ (.int .i64 j')) j' vs pv :=
  h.step (h.rd.set j') (Moved.set _ _ _ _)
/-- A value is appended (it stood in a block just laid), and the row put back. -/
theorem PM.push {b : Nat} {s : ByteArray} {w : World} {r g : Nat} {x : ByteArray} {wr w' : World} {j : Nat} {vs : List V} {pv pv' : Value} (h : PM b s w r g x wr j vs pv) (v : V)
    (ho : w'.ownsRow w.heap.size 80 3 pv' (vs.length + 1) (vcells vs ++ v.cells)) (hg : wr.grownBy w' pv.ownBlock) : PM b s w r g x (w'.setCell ⟨g, 1, none⟩ pv') j (vs ++ [v]) pv' := by
  have hne := h.ne
  have hbx := h.bx.grown h.own hg
  have hrb := h.rb.grown h.own hg
  refine ⟨(h.rd.grownR h.own hg hne.1).setO (by simp; omega) _, (h.mv.grownR h.own hg).setO (by simp; omega) _, hbx.set pv', hrb.setO (by simp; omega) _, ?_, hne⟩
  rw [List.length_append, vcells_append]
  refine own_moved (b := g) ?_ (Moved.set _ _ _ _) ?_
  · exact (by simpa [vcells] using ho)
  · exact own_other (by simpa [vcells] using ho) hbx (by decide)
theorem PM.alloc {b : Nat} {s : ByteArray} {w : World} {r g : Nat} {x : ByteArray} {wr : World} {j : Nat} {vs : List V} {pv : Value} (h : PM b s w r g x wr j vs pv) (o : Obj) : PM b s w r g x (wr.alloc o) j vs pv := h.below (below_alloc _ _)
/-- The loop over the values: what has been read. -/
def PE (l : List UInt8) (j0 j : Nat) (vs : List V) : Prop := vs.length ≤ j ∧ paramsS (l.length + 1) l j0 = (paramsS (l.length + 1 - vs.length) l j).map fun y => (vs ++ y.1, y.2)
theorem PE.fuel {l : List UInt8} {j0 j : Nat} {vs : List V} (h : PE l j0 j vs) (hj : j ≤ l.length) : ∃ n, l.length + 1 - vs.length = n + 1 := ⟨l.length - vs.length, by have := h.1; omega⟩
theorem PE.none {l : List UInt8} {j0 j : Nat} {vs : List V} (h : PE l j0 j vs) (hj : j < l.length) (hn : nx l j 44 = true) (hv : valueV l (j + 1) = none) : paramsS (l.length + 1) l j0 = none := by
  obtain ⟨n, hf⟩ := h.fuel (Nat.le_of_lt hj)
  rw [h.2, hf, paramsS_none hn hv]; rfl
theorem PE.step {l : List UInt8} {j0 j j1 : Nat} {vs : List V} {v : V} (h : PE l j0 j vs) (hj : j < l.length) (hn : nx l j 44 = true) (hv : valueV l (j + 1) = some (v, j1)) (hle : j + 1 ≤ j1) : PE l j0 j1 (vs ++ [v]) := by
  obtain ⟨n, hf⟩ := h.fuel (Nat.le_of_lt hj)
  have hl := h.1
  refine ⟨by simp; omega, ?_⟩
  rw [h.2, hf, paramsS_some hn hv]
  have : l.length + 1 - (vs ++ [v]).length = n := by simp; omega
  rw [this]
  cases paramsS n l j1 with
  | none => rfl
  | some y => simp
theorem PE.done {l : List UInt8} {j0 j : Nat} {vs : List V} (h : PE l j0 j vs) (hj : j ≤ l.length) (hn : nx l j 44 = false) : paramsS (l.length + 1) l j0 = some (vs, j) := by
  obtain ⟨n, hf⟩ := h.fuel hj
  rw [h.2, hf, paramsS_end hn]; simp

set_option maxRecDepth 100000 in
set_option maxHeartbeats 2000000 in
theorem part_any (b : Nat) (s : ByteArray) (k : Nat) (hk : s.size ≤ 100000000) (w : World) (h : IsR w b s k) (hks : k ≤ s.size) (hE : EnvB b w) :
    Calls Tryz.prog 35 #[.pointer (some ⟨b, 0, none⟩)] w (PartEnd b s w (partS s.data.toList k)) := by
  have hbl := h.lt
  have HR0 := Lib.hid (h.alloc (.cells #[.string ⟨#[]⟩, .slice none 0 0] 71))
  have HQ := Lib.hid (quoted_any b s k hk)
  cases hq : qtd s.data.toList k with
  | none =>
    have HS : Hid (quotedS s.data.toList k = none) := Lib.hid (by rw [quotedS_qtd, hq]; rfl)
    rw [partS_qno hq]
    clear hq h
    rw [HS.out] at HQ
    go_enter Tryz.func35, Tryz.ntmps35
    go_wp2_with (go_at_call 74; refine (HQ.out _ HR0.out hks).mono ?_; rintro e w3 ⟨rfl, hm3⟩)
    exact ⟨rfl, rfl, moved_box hm3⟩
  | some x =>
    obtain ⟨x, j0⟩ := x
    have HS : Hid (quotedS s.data.toList k = some (.string ⟨x.toArray⟩, j0)) := Lib.hid (by rw [quotedS_qtd, hq]; rfl)
    have hj0 := qtd_le hq
    have hj0s : j0 ≤ s.size := by simpa using hj0.2
    rw [partS_tail hq]
    clear hq h
    rw [HS.out] at HQ
    clear HS
    generalize (⟨x.toArray⟩ : ByteArray) = xs at HQ ⊢
    generalize ho : tailS s.data.toList j0 xs = o
    have HO := Lib.hid ho
    clear ho
    go_enter Tryz.func35, Tryz.ntmps35
    go_wp2_with (first
      | (go_at_call 74; refine (HQ.out _ HR0.out hks).mono ?_; rintro e w3 ⟨rfl, hr3, hm3⟩)
      | (fail))
    have hbw3 : b < w3.heap.size := hr3.lt
    have hw3 : w.heap.size + 1 ≤ w3.heap.size := by have := hm3.size; simpa using this
    have P0 : PM b s w w.heap.size w3.heap.size xs (w3.alloc (.cells #[.string xs, .slice none 0 0] 71)) j0 [] (.slice none 0 0) :=
      ⟨hr3.alloc _, (moved_box hm3).alloc _, TBox.new _ _ _, ((TBox.new w ByteArray.empty (.slice none 0 0)).moved hm3 (by omega)).below (below_alloc _ _), World.ownsRow_nil _ _ _ _, by omega⟩
    have HP := Lib.hid P0
    have HE0 : Hid (PE s.data.toList j0 j0 []) := Lib.hid ⟨by simp, by simp⟩
    clear P0 hr3 hm3
    go_loopw [] (fun wr => ∃ (j : Nat) (vs : List V) (pv : Value), j0 ≤ j ∧ j ≤ s.size ∧ Hid (PM b s w w.heap.size w3.heap.size xs wr j vs pv) ∧ Hid (PE s.data.toList j0 j vs)) (fun wr => s.size - (match wr.cell? ⟨b, 1, none⟩ with | some v => (intOf v).toNat | none => 0))
    case atStart => exact ⟨j0, [], _, Nat.le_refl _, hj0s, HP, HE0⟩
    case round =>
      obtain ⟨j, vs, pv, hlo, hhi, H, HE⟩ := hrel
      have i0 : (0 : Int) ≤ (j : Int) := Int.natCast_nonneg _
      have i1 : (j : Int) ≤ 100000000 := by omega
      have N := next_any b s j 44 wr H.out.rd
      cases hn : nx s.data.toList j 44 with
      | true =>
        rw [hn] at N
        have hjs := nx_lt hn
        have HN := Lib.hid N
        have HV := Lib.hid (value_any b s (j + 1) hk)
        cases hv : valueV s.data.toList (j + 1) with
        | none =>
          have HS : Hid (valueS s.data.toList (j + 1) = none) := Lib.hid (by rw [valueS, hv]; rfl)
          have hn' := Lib.hid hn
          have hv' := Lib.hid hv
          clear N hn hv
          rw [HS.out] at HV
          go_wp2_with (first
            | (go_at_call 75; refine HN.out.mono ?_; rintro e w4 ⟨rfl, hb4⟩; have H4 : Hid (PM b s w w.heap.size w3.heap.size xs (w4.setCell ⟨b, 1, none⟩ (.int .i64 ((j : Int) + 1))) (j + 1) vs pv) := Lib.hid ((H.out.below hb4).at_ (j + 1)); have q1 := (H.out.rd.below hb4).2.1; have q2 := (H.out.rd.below hb4).2.2)
            | (fail))
          obtain ⟨p0, p1, p2, p3⟩ := H4.out.bx.cells
          have hV4 := Lib.hid (HV.out _ H4.out.drew.rd (by omega) (hE.moved H4.out.drew.mv))
          have HN2 : Hid (o = none) := Lib.hid (by rw [← HO.out, tailS_none (HE.out.none hjs hn'.out hv'.out)])
          go_region_with (go_at_call 76; refine (fun (_ : wpAny Tryz.prog .any #[] (fun _ _ _ => True) 0 #[] ⟨#[], []⟩ w) => ?_) ?_; exact hV4.out.mono (fun e w5 hh => by obtain ⟨rfl, hm5⟩ := hh; exact ⟨rfl, PartEnd.no HN2.out (H4.out.drew.mv.trans hm5)⟩))
          all_goals exact trivial
        | some v =>
          obtain ⟨v, j1⟩ := v
          have HS : Hid (valueS s.data.toList (j + 1) = some (v.val, j1)) := Lib.hid (by rw [valueS, hv]; rfl)
          have hle := valueV_le (by simp; omega) hv
          have hle2 : j1 ≤ s.size := by simpa using hle.2
          have HE1 := Lib.hid (HE.out.step (by simpa using hjs) hn hv hle.1)
          have hvl : vs.length ≤ 100000000 := by have := HE.out.1; omega
          clear N hn hv
          rw [HS.out] at HV
          simp only [V.val] at HV
          go_wp2_with (first
            | (go_at_call 75; refine HN.out.mono ?_; rintro e w4 ⟨rfl, hb4⟩; have H4 : Hid (PM b s w w.heap.size w3.heap.size xs (w4.setCell ⟨b, 1, none⟩ (.int .i64 ((j : Int) + 1))) (j + 1) vs pv) := Lib.hid ((H.out.below hb4).at_ (j + 1)); have q1 := (H.out.rd.below hb4).2.1; have q2 := (H.out.rd.below hb4).2.2)
            | (fail))
          have hV4 := Lib.hid (HV.out _ H4.out.drew.rd (by omega) (hE.moved H4.out.drew.mv))
          obtain ⟨p0, p1, p2, p3⟩ := (H.out.below hb4).bx.cells
          go_region_law
            (first
              | (go_simp; go_at_call 76; refine hV4.out.mono ?_; rintro e w5 ⟨rfl, hr5, hm5⟩; have H5 := Lib.hid (H4.out.drew.step hr5 hm5); obtain ⟨r0, r1, r2, r3⟩ := H5.out.bx.cells; have t1 := fun o => (H5.out.alloc o).bx.cells.2.1; have hz5 : w.heap.size ≤ w5.heap.size := H5.out.mv.size)
              | (refine step_append_any (w5.alloc (.cells #[.int .i64 v.k, .int .i64 v.n, .string v.s] 80)) rfl (.tmp 17) (.tmp 20) _ (by rfl) w.heap.size _ _ 3 32 Tryz.underlying40 infoV rfl (by decide) (by decide) _ vs.length (vcells vs) (by rfl) (H5.out.alloc _).own _ 1 1 v.cells (by rfl) ⟨rfl, fun _ => ⟨_, rfl, cells_new w5 _ _ _ rfl⟩⟩ (by intro u hu; simp only [V.cells, List.mem_cons, List.not_mem_nil, or_false] at hu; rcases hu with rfl | rfl | rfl <;> rfl) (by omega) (by simp; omega) ?_; intro v6 w6 hown6 hg6; obtain ⟨pa6, pc6, he6, hx6⟩ := own_form hown6; clear hx6; subst he6; have H6 := Lib.hid ((H5.out.alloc (.cells #[.int .i64 v.k, .int .i64 v.n, .string v.s] 80)).push v hown6 hg6); obtain ⟨s0, s1, s2, s3⟩ := ((H5.out.alloc (.cells #[.int .i64 v.k, .int .i64 v.n, .string v.s] 80)).bx.grown (H5.out.alloc _).own hg6).cells))
          all_goals
            go_roundw
            case rel => first | exact ⟨j1, vs ++ [v], _, by omega, hle2, H6, HE1⟩ | ((repeat apply Exists.intro); exact ⟨⟨j1, vs ++ [v], _, by omega, hle2, H6, HE1⟩, rfl⟩)
            case measure =>
              have h1 := H6.out.rd.2.1
              rw [h1, H.out.rd.2.1]; simp [intOf]; omega
      | false =>
        rw [hn] at N
        have HN := Lib.hid N
        have HO2 : Hid (tailS s.data.toList j0 xs = if nx s.data.toList j 10 = true ∧ (T.mk xs vs).may = true then some (T.mk xs vs, j + 1) else none) := Lib.hid (tailS_some (HE.out.done (by simpa using hhi) hn))
        have HM := Lib.hid (must_any b s j 10 (by omega))
        have hvl : vs.length ≤ 100000000 := by have := HE.out.1; omega
        clear N hn
        unfold mustS at HM
        cases hn : nx s.data.toList j 10 with
        | false =>
          rw [hn] at HM
          have HN2 : Hid (o = none) := Lib.hid (by rw [← HO.out, HO2.out, hn]; rfl)
          clear hn
          go_wp2_with (first
            | (go_at_call 75; refine HN.out.mono ?_; rintro e w4 ⟨rfl, hb4⟩; have H4 := Lib.hid (H.out.below hb4))
            | (go_at_call 77; refine (HM.out _ H4.out.rd).mono ?_; rintro e w5 ⟨rfl, hm5⟩))
          exact ⟨rfl, PartEnd.no HN2.out (H4.out.mv.trans hm5)⟩
        | true =>
          rw [hn] at HM
          obtain ⟨pa, pc, hpv, hpc, hx⟩ := own_form H.out.own
          clear hx
          subst hpv
          have HC := Lib.hid (fun w' h => dmay_any xs pa vs.length pc vs rfl w' h)
          cases hm : (T.mk xs vs).may with
          | false =>
            have HN2 : Hid (o = none) := Lib.hid (by rw [← HO.out, HO2.out, hn, hm]; rfl)
            rw [hm] at HC
            clear hn hm
            go_wp2_with (first
              | (go_at_call 75; refine HN.out.mono ?_; rintro e w4 ⟨rfl, hb4⟩; have H4 := Lib.hid (H.out.below hb4))
              | (go_at_call 77; refine (HM.out _ H4.out.rd).mono ?_; rintro e w5 ⟨rfl, hr5, hm5⟩; have H5 := Lib.hid (H4.out.step hr5 hm5); obtain ⟨r0, r1, r2, r3⟩ := H5.out.bx.cells)
              | (go_at_call 25; refine (HC.out _ (own_vs H5.out.own)).mono ?_; rintro e w6 ⟨rfl, hb6⟩)
              | (go_at_call 78; refine (need_no _).mono ?_; rintro e w7 ⟨rfl, rfl⟩))
            exact ⟨rfl, PartEnd.no HN2.out (H5.out.mv.trans (Moved.of_below hb6))⟩
          | true =>
            have HN2 : Hid (o = some (T.mk xs vs, j + 1)) := Lib.hid (by rw [← HO.out, HO2.out, hn, hm]; rfl)
            rw [hm] at HC
            clear hn hm
            go_wp2_with (first
              | (go_at_call 75; refine HN.out.mono ?_; rintro e w4 ⟨rfl, hb4⟩; have H4 := Lib.hid (H.out.below hb4))
              | (go_at_call 77; refine (HM.out _ H4.out.rd).mono ?_; rintro e w5 ⟨rfl, hr5, hm5⟩; have H5 := Lib.hid (H4.out.step hr5 hm5); obtain ⟨r0, r1, r2, r3⟩ := H5.out.bx.cells)
              | (go_at_call 25; refine (HC.out _ (own_vs H5.out.own)).mono ?_; rintro e w6 ⟨rfl, hb6⟩)
              | (go_at_call 78; refine (need_ok _).mono ?_; rintro e w7 ⟨rfl, rfl⟩; have H6 := Lib.hid (H5.out.below hb6); obtain ⟨s0, s1, s2, s3⟩ := H6.out.bx.cells; obtain ⟨u0, u1, u2, u3⟩ := H6.out.rb.cells))
            refine bodyPost_ret (by simp [results, Tryz.results35, go_sem, u0, u1]; try rfl) rfl ?_
            have hrb : (⟨w.heap.size, 0, none⟩ : Addr).block ≠ b := by simp; omega
            refine PartEnd.yes (t := T.mk xs vs) HN2.out ?_ ((H6.out.rd.setO hrb _).setO (p := ⟨w.heap.size, 1, none⟩) hrb _) ((H6.out.mv.setO (p := ⟨w.heap.size, 0, none⟩) (Nat.le_refl _) _).setO (p := ⟨w.heap.size, 1, none⟩) (Nat.le_refl _) _)
            exact own_moved H6.out.own ((Moved.set w.heap.size 0 _ _).trans (Moved.set w.heap.size 1 _ _)) (own_other H6.out.own H6.out.rb (by decide))
end Go.Proofs.YtkkildkleleppaaGreatDoor
