/- Plain: what a line is read as, verb by verb, as the document goes about it. The document's Parse: no verb. -/
import Derived.Test.YtkkildkleleppaaGreatDoorJ39
import Derived.Test.YtkkildkleleppaaGreatDoorJ40
import Derived.Test.YtkkildkleleppaaGreatDoorJ35
namespace Go.Proofs.YtkkildkleleppaaGreatDoor

theorem verbW_inj {i j : Nat} (hi : i < 17) (hj : j < 17) (h : verbW i = verbW j) : i = j := by
  have : ∀ i, i < 17 → ∀ j, j < 17 → verbW i = verbW j → i = j := by decide
  exact this i hi j hj h
theorem verbNo_not {w : List UInt8} (h : verbNo w = none) : ∀ j, j < 17 → w ≠ verbW j := by
  intro j hj e
  unfold verbNo at h
  have h1 := List.find?_eq_none.1 h j (List.mem_range.2 hj)
  apply h1
  simp [e]
section
variable {l wd : List UInt8} {s : St} {i : Nat} (h1 : cutX true false l = (wd, s))
include h1
theorem parse_not (h : verbNo wd = none) : parseS l = .error 420 := by
  unfold parseS
  rw [h1]
  simp only [h]
theorem parse_words {o : Option (C × Bool)} (h : verbNo wd = some i) (hv : verbR i s = words o) : parseS l = match okO o with | none => .error 421 | some c => .ok c := by
  unfold parseS
  rw [h1]
  simp only [h, hv]
  match o with
  | none => rfl
  | some (c, true) => rfl
  | some (c, false) => rfl
theorem parse_plain (h : verbNo wd = some i) (hv : verbR i s = .ok (plainC i, s.2)) : parseS l = if s.2 then .error 421 else .ok (plainC i) := by
  unfold parseS
  rw [h1]
  simp only [h, hv]
theorem parse_load (h : verbNo wd = some 16) : parseS l = firstE (loadR s) := by
  unfold parseS
  rw [h1]
  simp only [h]
  have hv : verbR 16 s = loadR s := rfl
  rw [hv]
  cases ho : loadR s with
  | error n => rfl
  | ok x =>
    have hx : x.2 = false := by
      unfold loadR at ho
      split at ho
      · cases ho
      · split at ho
        · cases ho
        · split at ho
          · cases ho
          · cases ho; rfl
    simp [firstE, hx]
end
theorem numGo_digits {neg : Bool} : ∀ (r : List UInt8) (a n : Int), numGo neg a r = some n → ∀ c ∈ r, 48 ≤ c.toNat
  | [], _, _, _, c, hc => by cases hc
  | d :: r, a, n, h, c, hc => by
    obtain ⟨h1, h2⟩ := numGo_one h
    rcases List.mem_cons.1 hc with rfl | hc
    · omega
    · exact numGo_digits r _ n h2 c hc
theorem rnum_chars {l : List UInt8} {n : Int} (h : rnum l = some n) : ∀ c ∈ l, c ≠ 32 := by
  unfold rnum at h
  split at h
  · cases h
  · have h1 := numGo_digits _ _ _ h
    intro c hc e
    subst e
    unfold numAt at h1
    split at h1
    · rename_i hn
      cases l with
      | nil => cases hc
      | cons d r =>
        simp only [negL, List.getElem?_cons_zero, beq_iff_eq, Option.some.injEq] at hn
        subst hn
        rcases List.mem_cons.1 hc with h2 | h2
        · cases h2
        · have := h1 32 (by simpa using h2)
          revert this; decide
    · have := h1 32 (by simpa using hc)
      revert this; decide
theorem numO_chars {l : List UInt8} {n : Int} (h : numO l = some n) : ∀ c ∈ l, c ≠ 32 := by
  unfold numO at h
  cases hr : rnum l with
  | none => rw [hr] at h; cases h
  | some k => exact rnum_chars hr
/-- A word with a number: the whole rest is the number. -/
theorem count_okO (ak : Int) (q : List UInt8) (b : Bool) : okO (countR ak (q, b)) = if b then (numO q).map (fun n => C.act ak n false []) else none := by
  cases b with
  | false => rfl
  | true =>
    have hj := cutX_join true q false
    unfold countR numS wordS
    simp only [if_true]
    cases hm : (cutX true false q).2.2 with
    | false =>
      rw [joinS_off hm, List.append_nil] at hj
      rw [hj]
      cases numO q with
      | none => rfl
      | some n => simp [okO, hm]
    | true =>
      rw [joinS_on hm] at hj
      have hq : numO q = none := by
        cases hn : numO q with
        | none => rfl
        | some n => exact absurd rfl (numO_chars hn 32 (by rw [← hj]; simp))
      rw [hq]
      cases numO (cutX true false q).1 with
      | none => rfl
      | some n => simp [okO, hm]
end Go.Proofs.YtkkildkleleppaaGreatDoor
namespace Go.Proofs.YtkkildkleleppaaGreatDoor
open Go.RowKit

set_option maxRecDepth 100000 in
set_option maxHeartbeats 4000000 in
/-- No verb. -/
theorem rparse_none (l : List UInt8) (hl : l.length ≤ 100000000) (h : verbNo (cutX true false l).1 = none) (w : World) : Calls Tryz.prog 17 #[.string ⟨l.toArray⟩] w (ParseE w (parseS l)) := by
  obtain ⟨wd, q, b, h1⟩ : ∃ x r b, cutX true false l = (x, r, b) := ⟨_, _, _, rfl⟩
  have hx := cutX_len true false l
  rw [h1] at hx
  simp only at hx
  have HC1 := Lib.hid (rcut_at true l wd q b hl h1)
  have HQl : Hid (q.length ≤ l.length) := Lib.hid hx.2
  rw [h1] at h
  simp only at h
  have HX := Lib.hid (parse_not (l := l) h1 h)
  have hN := verbNo_not h
  have HPl := Lib.hid (fun w' => rplain_none wd (fun i hi => hN i (by omega)) w')
  have HK := Lib.hid (fun w' => rkind_none wd (fun i hi => hN i (by omega)) w')
  have x1 : (wd == [99, 114, 97, 115, 104, 105, 110]) = false := by rw [beq_eq_false_iff_ne]; exact hN 11 (by omega)
  have x2 : (wd == [114, 111, 111, 109]) = false := by rw [beq_eq_false_iff_ne]; exact hN 12 (by omega)
  have x3 : (wd == [114, 101, 115, 116, 97, 114, 116]) = false := by rw [beq_eq_false_iff_ne]; exact hN 13 (by omega)
  have x4 : (wd == [108, 111, 97, 100]) = false := by rw [beq_eq_false_iff_ne]; exact hN 16 (by omega)
  clear h hN hx h1
  obtain ⟨W0, hW0⟩ : ∃ W0, w.alloc (.cells #[.int .i64 0, .int .i64 0, .int .i64 0, .int .i64 0, .int .i64 0, .string ⟨#[]⟩, .slice none 0 0, .int .i64 0, .bool false, .slice none 0 0, .int .i64 0, .slice none 0 0] 47) = W0 := ⟨_, rfl⟩
  have HB0 : Hid (Below w.heap.size w W0) := Lib.hid (by rw [← hW0]; exact below_alloc _ _)
  have HR0 : Hid (CBox W0 w.heap.size) := Lib.hid (by rw [← hW0]; exact Blk.new _ _ _)
  go_enter Tryz.func17, Tryz.ntmps17
  go_upto_region 3 with (first
    | (go_at_call 45; refine (HC1.out _).mono ?_; rintro e w1 ⟨rfl, hb1⟩)
    | (go_at_call 46; refine (HPl.out _).mono ?_; rintro e w2 ⟨rfl, hb2⟩))
  generalize hW3 : w2.alloc (Obj.cells #[.int .i64 0, .int .i64 0, .int .i64 0, .int .i64 0, .int .i64 0, .string ⟨#[]⟩, .slice none 0 0, .int .i64 0, .bool false, .slice none 0 0, .int .i64 0, .slice none 0 0] 47) = W3
  have HR2 : Hid (CBox w2 w.heap.size) := Lib.hid (Blk.below (Blk.below HR0.out hb1) hb2)
  have HG : Hid (w.heap.size < w2.heap.size) := Lib.hid (Blk.lt HR2.out)
  have HQ3 : Hid (CBox W3 w2.heap.size) := Lib.hid (by rw [← hW3]; exact Blk.new _ _ _)
  have HR3 : Hid (CBox W3 w.heap.size) := Lib.hid (by rw [← hW3]; exact Blk.alloc HR2.out _)
  have HB3 : Hid (Below w.heap.size w W3) := Lib.hid (by rw [← hW3]; exact below_thn (below_thn (below_thn HB0.out hb1) hb2) (below_alloc _ _))
  generalize w2.heap.size = g at HG HQ3 ⊢
  clear hW3 hb1 hb2 HR2 hW0 HR0 HB0
  go_wp2_with ((go_at_call 47; refine (HK.out _).mono ?_; rintro e w4 ⟨rfl, hb4⟩); have HR4 : Hid (CBox w4 w.heap.size) := Lib.hid (Blk.below HR3.out hb4); obtain ⟨r0, r1, r2, r3, r4, r5, r6, r7, r8, r9, r10, r11⟩ := CBox.cells HR4.out; obtain ⟨g0, g1, g2, g3, g4, g5, g6, g7, g8, g9, g10, g11⟩ := CBox.free HR4.out)
  refine bodyPost_ret (by simp [results, Tryz.results17, go_sem, r0, r1, r2, r3, r4, r5, r6, r7, r8, r9, r10, r11]; try rfl) rfl ?_
  exact ParseE.no HX.out (below_over (below_thn HB3.out hb4) ((((((((((((Moved.set w.heap.size 0 _ _).trans (Moved.set w.heap.size 1 _ _)).trans (Moved.set w.heap.size 2 _ _)).trans (Moved.set w.heap.size 3 _ _)).trans (Moved.set w.heap.size 4 _ _)).trans (Moved.set w.heap.size 5 _ _)).trans (Moved.set w.heap.size 6 _ _)).trans (Moved.set w.heap.size 7 _ _)).trans (Moved.set w.heap.size 8 _ _)).trans (Moved.set w.heap.size 9 _ _)).trans (Moved.set w.heap.size 10 _ _)).trans (Moved.set w.heap.size 11 _ _)) (Nat.le_refl _) (Nat.le_refl _))
end Go.Proofs.YtkkildkleleppaaGreatDoor
