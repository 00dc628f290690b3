/- Plain: an answer, and its text. Where it lies in memory. The calls whose answers the document fixes (bureaulaw32.head). -/
import Derived.Test.YtkkildkleleppaaGreatDoorJ22
import Derived.Test.YtkkildkleleppaaGreatDoorJ36
namespace Go.Proofs.YtkkildkleleppaaGreatDoor
open Go.RowKit

/-- An answer, as data. -/
structure A where
  err : Int
  place : Int
  is : Bool
  names : List ByteArray
  rows : List (List V)
  ch : Int
def okT : List UInt8 := [111, 107, 10]
/-- Names with commas between. -/
def namesT (l : List ByteArray) : List UInt8 := Lib.join (l.map (·.data.toList)) [44]
def rowsT (l : List (List V)) : List UInt8 := l.flatMap fun r => litsT r ++ [10]
/-- A result's text. -/
def resultT (a : A) : List UInt8 :=
  if a.names = [] then [99, 104, 97, 110, 103, 101, 115] ++ numT a.ch ++ [10]
  else [114, 111, 119, 115] ++ numT (a.rows.length : Int) ++ [10] ++ namesT a.names ++ [10] ++ rowsT a.rows
/-- The text of an answer to a command. -/
def textA (c : C) (a : A) : List UInt8 :=
  if a.err ≠ 0 then (if c.k = 4 then [101, 114, 114, 111, 114] ++ numT a.err ++ [32, 97, 116] ++ numT a.place ++ [10] else faultT a.err a.place)
  else if c.k ≠ 1 ∨ c.ak ≠ 1 then okT
  else if c.ek = 3 then resultT a
  else if c.ek = 9 then (if a.is then [121, 101, 115, 10] else [110, 111, 10])
  else if c.ek ≠ 6 then okT
  else if a.is then [114, 111, 119, 32] ++ litsT (a.rows.headD []) ++ [10] else [101, 110, 100, 10]

theorem IsSs.at_ {w : World} {a : Option Addr} {l : List ByteArray} (h : IsSs w a l) {k : Nat} (hk : k < l.length) : ∃ b o, a = some ⟨b, o, none⟩ ∧ w.cell? ⟨b, o + k, none⟩ = some (.string l[k]) := by
  rcases h with h | ⟨b, o, h, hv⟩
  · subst h; simp at hk
  · exact ⟨b, o, h, hv k _ (List.getElem?_eq_getElem hk)⟩
/-- Rows of values behind a slice's address. -/
def IsRs (w : World) (a : Option Addr) (l : List (List V)) : Prop :=
  l = [] ∨ ∃ b o, a = some ⟨b, o, none⟩ ∧ ∀ i r, l[i]? = some r → ∃ pa pc, w.cell? ⟨b, o + i, none⟩ = some (.slice pa r.length pc) ∧ r.length ≤ pc ∧ IsVs w pa r
theorem IsRs.below {w w' : World} {a : Option Addr} {l : List (List V)} (h : IsRs w a l) (hb : Below w.heap.size w w') : IsRs w' a l := by
  rcases h with h | ⟨b, o, h, hv⟩
  · exact .inl h
  · refine .inr ⟨b, o, h, fun i r hi => ?_⟩
    obtain ⟨pa, pc, h1, h2, h3⟩ := hv i r hi
    exact ⟨pa, pc, (hb.cell (lt_of_cell h1)).trans h1, h2, h3.below hb⟩
theorem IsRs.at_ {w : World} {a : Option Addr} {l : List (List V)} (h : IsRs w a l) {k : Nat} (hk : k < l.length) : ∃ b o, a = some ⟨b, o, none⟩ ∧ ∃ pa pc, w.cell? ⟨b, o + k, none⟩ = some (.slice pa l[k].length pc) ∧ l[k].length ≤ pc ∧ IsVs w pa l[k] := by
  rcases h with h | ⟨b, o, h, hv⟩
  · subst h; simp at hk
  · exact ⟨b, o, h, hv k _ (List.getElem?_eq_getElem hk)⟩
/-- An answer's value. -/
def IsA (w : World) (v : Value) (a : A) : Prop := ∃ na nc ra rc, v = .agg #[.int .i64 a.err, .int .i64 a.place, .bool a.is, .slice na a.names.length nc, .slice ra a.rows.length rc, .int .i64 a.ch] ∧
  a.names.length ≤ nc ∧ a.rows.length ≤ rc ∧ IsSs w na a.names ∧ IsRs w ra a.rows
theorem IsA.below {w w' : World} {v : Value} {a : A} (h : IsA w v a) (hb : Below w.heap.size w w') : IsA w' v a := by
  obtain ⟨na, nc, ra, rc, hv, h1, h2, h3, h4⟩ := h
  exact ⟨na, nc, ra, rc, hv, h1, h2, h3.below hb, h4.below hb⟩
/-- An answer that is short enough. -/
structure FitA (a : A) : Prop where
  err : In64 a.err
  place : In64 a.place
  ch : In64 a.ch
  nl : a.names.length ≤ 1100000
  nt : (namesT a.names).length ≤ 20000000
  rl : a.rows.length ≤ 1100000
  rf : ∀ r ∈ a.rows, fitVs r ∧ r.length ≤ 1100000
  rt : (rowsT a.rows).length ≤ 40000000
end Go.Proofs.YtkkildkleleppaaGreatDoor
namespace Go.Proofs.YtkkildkleleppaaGreatDoor
open Go.RowKit

set_option maxRecDepth 100000 in
set_option maxHeartbeats 4000000 in
/-- An error's text. -/
theorem stext_fault (v u : Value) (c : C) (a : A) (hk : c.k ≠ 4) (he : a.err ≠ 0) (h1 : In64 a.err) (h2 : In64 a.place) (w : World) (hE : Env w) (h : IsC w v c) (ha : IsA w u a) :
    Calls Tryz.prog 23 #[v, u] w (Ret w (.string ⟨(faultT a.err a.place).toArray⟩)) := by
  obtain ⟨pa, pc, ca, cc, ta, tc, hv, -⟩ := h
  obtain ⟨na, nc, ra, rc, hu, -⟩ := ha
  unfold C.val cmdV at hv
  subst hv hu
  have HF := Lib.hid (fun w' hE => fault_any a.err a.place h1 h2 w' hE)
  obtain ⟨W0, hW0⟩ : ∃ W0, (w.alloc (.cells #[.int .i64 c.k, .int .i64 c.ak, .int .i64 c.ek, .int .i64 c.ec, .int .i64 c.es, .string c.sql, .slice pa c.ps.length pc, .int .i64 c.n, .bool c.log, .slice ca c.ch.length cc, .int .i64 c.conn, .slice ta c.told.length tc] 47)).alloc (.cells #[.int .i64 a.err, .int .i64 a.place, .bool a.is, .slice na a.names.length nc, .slice ra a.rows.length rc, .int .i64 a.ch] 62) = W0 := ⟨_, rfl⟩
  have hs1 : (w.alloc (Obj.cells #[.int .i64 c.k, .int .i64 c.ak, .int .i64 c.ek, .int .i64 c.ec, .int .i64 c.es, .string c.sql, .slice pa c.ps.length pc, .int .i64 c.n, .bool c.log, .slice ca c.ch.length cc, .int .i64 c.conn, .slice ta c.told.length tc] 47)).heap.size = w.heap.size + 1 := by simp
  have hA : Blk W0 w.heap.size #[.int .i64 c.k, .int .i64 c.ak, .int .i64 c.ek, .int .i64 c.ec, .int .i64 c.es, .string c.sql, .slice pa c.ps.length pc, .int .i64 c.n, .bool c.log, .slice ca c.ch.length cc, .int .i64 c.conn, .slice ta c.told.length tc] 47 := by rw [← hW0]; exact Blk.alloc (Blk.new _ _ _) _
  have hB : Blk W0 (w.heap.size + 1) #[.int .i64 a.err, .int .i64 a.place, .bool a.is, .slice na a.names.length nc, .slice ra a.rows.length rc, .int .i64 a.ch] 62 := by rw [← hW0]; have := Blk.new (w.alloc (Obj.cells #[.int .i64 c.k, .int .i64 c.ak, .int .i64 c.ek, .int .i64 c.ec, .int .i64 c.es, .string c.sql, .slice pa c.ps.length pc, .int .i64 c.n, .bool c.log, .slice ca c.ch.length cc, .int .i64 c.conn, .slice ta c.told.length tc] 47)) #[.int .i64 a.err, .int .i64 a.place, .bool a.is, .slice na a.names.length nc, .slice ra a.rows.length rc, .int .i64 a.ch] 62; rw [hs1] at this; exact this
  have HB : Hid (Below w.heap.size w W0) := Lib.hid (by rw [← hW0]; exact (below_alloc _ _).alloc (by simp) _)
  have HE := Lib.hid (hE.below HB.out)
  have a0 : W0.cell? ⟨w.heap.size, 0, none⟩ = some (.int .i64 c.k) := Blk.cell hA 0
  have b0 : W0.cell? ⟨w.heap.size + 1, 0, none⟩ = some (.int .i64 a.err) := Blk.cell hB 0
  have b1 : W0.cell? ⟨w.heap.size + 1, 1, none⟩ = some (.int .i64 a.place) := Blk.cell hB 1
  have k1 : (c.k == 4) = false := by simp [hk]
  have k2 : (a.err != 0) = true := by simp [he]
  have k3 : (a.err == 0) = false := by simp [he]
  clear hA hB hs1 hE h1 h2 hk he
  go_enter Tryz.func23, Tryz.ntmps23
  go_wp2_with (go_at_call 56; refine (HF.out _ HE.out).mono ?_; rintro e w2 ⟨rfl, hb2⟩)
  go_ret
  exact ⟨rfl, bthn HB.out hb2⟩

/-! ### The head's lines -/
def hL : List UInt8 := [101, 120, 101, 99, 32, 48, 32, 115, 101, 108, 101, 99, 116, 32, 49]
def hC : C := C.event 3 0 0 ⟨#[115, 101, 108, 101, 99, 116, 32, 49]⟩ []
theorem h_parse : parseS hL = .ok hC := by rfl
theorem h_fly : parseS [102, 108, 121] = .error 420 := by rfl
theorem h_print : printV hC = (hL, 0) := by rw [printV_eq]; exact print_parse h_parse
theorem h_text : faultT 260 3 = [101, 114, 114, 111, 114, 32, 50, 54, 48, 32, 51, 10] := by
  have e1 : Lib.itoa 260 = [50, 54, 48] := rnum_sound (by rfl)
  have e2 : Lib.itoa 3 = [51] := rnum_sound (by rfl)
  unfold faultT numT
  rw [e1, e2]
  rfl
theorem h_fit : FitC hC :=
  ⟨⟨by decide, by decide⟩, ⟨by decide, by decide⟩, ⟨by decide, by decide⟩, ⟨by decide, by decide⟩, (by intro x hx; cases hx), by decide, by decide, by decide, (by intro x hx; cases hx), by decide, by decide, (by intro x hx; cases hx), (by intro x hx; cases hx), by decide⟩
def hA : A := ⟨260, 3, false, [], [], 0⟩
set_option maxRecDepth 100000 in
set_option maxHeartbeats 4000000 in
theorem head32_any (w : World) (hE : Env w) : Calls Tryz.prog 18 #[] w (Ret w (.bool true)) := by
  have HE0 := Lib.hid hE
  have hP := fun w' hE => parse_any hL (by decide) w' hE
  rw [h_parse] at hP
  have hQ := fun w' hE => parse_any [102, 108, 121] (by decide) w' hE
  rw [h_fly] at hQ
  have hS := fun v w' hE h => sprint_any v hC h_fit w' hE h
  rw [h_print] at hS
  simp only [hL] at hP hS
  have hT := fun v u w' hE h ha => stext_fault v u hC hA (by decide) (by decide) ⟨by decide, by decide⟩ ⟨by decide, by decide⟩ w' hE h ha
  have e0 : faultT hA.err hA.place = [101, 114, 114, 111, 114, 32, 50, 54, 48, 32, 51, 10] := h_text
  rw [e0] at hT
  have hsq : hC.sql = ⟨#[115, 101, 108, 101, 99, 116, 32, 49]⟩ := rfl
  have hA0 : ∀ w', IsA w' (.agg #[.int .i64 260, .int .i64 3, .bool false, .slice none 0 0, .slice none 0 0, .int .i64 0]) hA := fun w' => ⟨none, 0, none, 0, rfl, Nat.le_refl _, Nat.le_refl _, .inl rfl, .inl rfl⟩
  have HA0 := Lib.hid hA0
  generalize hC = c at hP hS hT hsq
  have HPa := Lib.hid hP
  have HQ := Lib.hid hQ
  have HS := Lib.hid hS
  have HT := Lib.hid hT
  have HSQ := Lib.hid hsq
  clear hP hQ hS hT hE hA0 e0 hsq
  go_enter Tryz.func18, Tryz.ntmps18
  go_upto_region 2 with ((go_at_call 16; (with_reducible refine (HPa.out _ HE0.out).mono ?_); rintro e w1 ⟨v, rfl, hown, hb1⟩; have HI1 := Lib.hid hown.is; obtain ⟨pv, rv, tv, xs, hve, ho1, ho2, ho3, htr⟩ := hown; obtain ⟨pa, pc, hpv, -, -, -⟩ := own_form ho1; obtain ⟨ca, cc, hcv, -, -, -⟩ := own_form ho2; obtain ⟨ta, tc, htv, -, -, -⟩ := own_form ho3; subst hpv hcv htv; unfold C.val cmdV at hve; subst hve; clear ho1 ho2 ho3 htr))
  generalize hW2 : w1.alloc (Obj.cells #[.int .i64 c.k, .int .i64 c.ak, .int .i64 c.ek, .int .i64 c.ec, .int .i64 c.es, .string c.sql, .slice pa c.ps.length pc, .int .i64 c.n, .bool c.log, .slice ca c.ch.length cc, .int .i64 c.conn, .slice ta c.told.length tc] 47) = W2
  have HB2 : Hid (Below w.heap.size w W2) := Lib.hid (by rw [← hW2]; exact bthn hb1 (below_alloc _ _))
  have HD2 : Hid (Blk W2 w1.heap.size #[.int .i64 c.k, .int .i64 c.ak, .int .i64 c.ek, .int .i64 c.ec, .int .i64 c.es, .string c.sql, .slice pa c.ps.length pc, .int .i64 c.n, .bool c.log, .slice ca c.ch.length cc, .int .i64 c.conn, .slice ta c.told.length tc] 47) := Lib.hid (by rw [← hW2]; exact Blk.new _ _ _)
  have HI2 : Hid (IsC W2 (.agg #[.int .i64 c.k, .int .i64 c.ak, .int .i64 c.ek, .int .i64 c.ec, .int .i64 c.es, .string c.sql, .slice pa c.ps.length pc, .int .i64 c.n, .bool c.log, .slice ca c.ch.length cc, .int .i64 c.conn, .slice ta c.told.length tc]) c) := Lib.hid (HI1.out.below (by rw [← hW2]; exact below_alloc _ _))
  have HE2 := Lib.hid (HE0.out.below HB2.out)
  generalize w1.heap.size = g at HD2 ⊢
  clear hW2 hb1 HI1
  obtain ⟨u0, u1, u2, u3, u4, u5, u6, u7, u8, u9, u10, u11⟩ := Blk.c12 HD2.out
  go_upto_region 4 with (first
    | (go_at_call 20; refine (HS.out _ _ HE2.out HI2.out).mono ?_; rintro e w3 ⟨rfl, hb3⟩)
    | (go_at_call 16; (with_reducible refine (HQ.out _ (HE2.out.below hb3)).mono ?_); rintro e w4 ⟨rfl, hb4⟩))
  generalize hW5 : w4.alloc (Obj.cells #[.int .i64 0, .int .i64 0, .int .i64 0, .int .i64 0, .int .i64 0, .string ⟨#[]⟩, .slice none 0 0, .int .i64 0, .bool false, .slice none 0 0, .int .i64 0, .slice none 0 0] 47) = W5
  have hb5 : Below W2.heap.size W2 W5 := by rw [← hW5]; exact bthn (bthn hb3 hb4) (below_alloc _ _)
  have HI5 := Lib.hid (HI2.out.below hb5)
  have HE5 := Lib.hid (HE2.out.below hb5)
  have HB5 := Lib.hid (bthn HB2.out hb5)
  clear u0 u1 u2 u3 u4 u5 u6 u7 u8 u9 u10 u11
  obtain ⟨u0, u1, u2, u3, u4, u5, u6, u7, u8, u9, u10, u11⟩ := Blk.c12 (Blk.below HD2.out hb5)
  rw [HSQ.out] at u5 HI5
  clear hW5 hb3 hb4 hb5 HPa HQ HS HI2 HE2 HB2 HD2 HE0
  go_wp2_with (go_at_call 23; refine (HT.out _ _ _ HE5.out HI5.out (HA0.out _)).mono ?_; rintro e w6 ⟨rfl, hb6⟩)
  go_ret
  exact ⟨rfl, bthn HB5.out hb6⟩
end Go.Proofs.YtkkildkleleppaaGreatDoor
