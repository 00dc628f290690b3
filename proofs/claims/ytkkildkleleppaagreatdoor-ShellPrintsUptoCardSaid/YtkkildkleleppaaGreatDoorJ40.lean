/- The document's reading: what its functions are told by. The document's load. -/
import Derived.Test.YtkkildkleleppaaGreatDoorJ39
import Derived.Test.YtkkildkleleppaaGreatDoorJ36
import Derived.Test.YtkkildkleleppaaGreatDoorJ28
namespace Go.Proofs.YtkkildkleleppaaGreatDoor
open Go.RowKit

theorem below_thn {w w1 w2 : World} (h : Below w.heap.size w w1) (h2 : Below w1.heap.size w1 w2) : Below w.heap.size w w2 := h.trans (h2.mono h.size)
/-- A command that leaves nothing behind it. -/
def okO : Option (C × Bool) → Option C
  | some (c, false) => some c
  | _ => none
/-- A command and whether the words fit. -/
def RcE (w : World) (o : Option (C × Bool)) (e : Ending) (w' : World) : Prop :=
  ∃ v c, e = .returned (.tuple #[v, .bool (okO o).isSome]) ∧ OwnC w' w.heap.size v c ∧ Below w.heap.size w w' ∧ ∀ d, okO o = some d → c = d
theorem RcE.fin {w w8 w' : World} {o : Option (C × Bool)} {c : C} {v : Value} {ok : Bool} (hown : OwnC w8 w.heap.size v c) (hok : (okO o).isSome = ok) (hc : ∀ d, okO o = some d → c = d)
    (hR : CBox w8 w.heap.size) (hb : Below w.heap.size w w8) (h12 : Moved w.heap.size w8 w') : RcE w o (.returned (.tuple #[v, .bool ok])) w' := by
  subst hok
  exact ⟨v, c, rfl, hown.movedR hR h12, below_over hb h12 (Nat.le_refl _) (Nat.le_refl _), hc⟩
theorem OwnC.zero (w : World) (B : Nat) : OwnC w B (.agg #[.int .i64 0, .int .i64 0, .int .i64 0, .int .i64 0, .int .i64 0, .string ⟨#[]⟩, .slice none 0 0, .int .i64 0, .bool false, .slice none 0 0, .int .i64 0, .slice none 0 0]) C.zero := ⟨_, _, _, [], rfl, World.ownsRow_nil _ _ _ _, World.ownsRow_nil _ _ _ _, World.ownsRow_nil _ _ _ _, TRow.nil_ _ _ _⟩
theorem OwnC.ev {w : World} {B : Nat} {pa : Option Addr} {pn pc : Nat} {ps : List V} (h : w.ownsRow B 80 3 (.slice pa pn pc) ps.length (vcells ps)) (ek ec es : Int) (sql : ByteArray) :
    OwnC w B (.agg #[.int .i64 1, .int .i64 1, .int .i64 ek, .int .i64 ec, .int .i64 es, .string sql, .slice pa pn pc, .int .i64 0, .bool false, .slice none 0 0, .int .i64 0, .slice none 0 0]) (C.event ek ec es sql ps) :=
  ⟨_, _, _, [], rfl, h, World.ownsRow_nil _ _ _ _, World.ownsRow_nil _ _ _ _, TRow.nil_ _ _ _⟩

theorem rcut_at (p : Bool) (l x r : List UInt8) (b : Bool) (hl : l.length ≤ 100000000) (h : cutX p false l = (x, r, b)) (w : World) :
    Calls Tryz.prog 45 #[.string ⟨l.toArray⟩, .bool p] w (Ret w (.tuple #[.string ⟨x.toArray⟩, .string ⟨r.toArray⟩, .bool b])) := by
  have h1 := rcut_any ⟨l.toArray⟩ p (by rw [size_arr]; exact hl) w
  unfold CutE at h1
  rw [toList_arr, h] at h1
  exact h1
theorem rnumb_at (x : List UInt8) (hl : x.length ≤ 100000000) (w : World) :
    Calls Tryz.prog 103 #[.string ⟨x.toArray⟩] w (Ret w (.tuple #[.int .i64 ((numO x).getD 0), .bool (numO x).isSome])) := by
  have h1 := rnumber_any ⟨x.toArray⟩ (by rw [size_arr]; exact hl) w
  rw [toList_arr] at h1
  exact h1
theorem rvals_at (x : List UInt8) (hl : x.length ≤ 100000000) (w : World) : Calls Tryz.prog 105 #[.string ⟨x.toArray⟩] w (RLitsE w (readVs (splitC false [] x))) := by
  have h1 := rvalues_any ⟨x.toArray⟩ (by rw [size_arr]; exact hl) w
  rw [toList_arr] at h1
  exact h1

theorem numS_cut {l : List UInt8} {m : Bool} {n : Int} {s1 : St} (h : numS (l, m) = some (n, s1)) : m = true ∧ ∃ x, cutX true false l = (x, s1.1, s1.2) ∧ numO x = some n := by
  cases m with
  | false => cases h
  | true =>
    refine ⟨rfl, (cutX true false l).1, ?_⟩
    unfold numS wordS at h
    simp only [if_true] at h
    cases hv : numO (cutX true false l).1 with
    | none => rw [hv] at h; cases h
    | some k =>
      rw [hv] at h
      simp only [Option.map_some, Option.some.injEq, Prod.mk.injEq] at h
      obtain ⟨rfl, rfl⟩ := h
      exact ⟨rfl, rfl⟩

end Go.Proofs.YtkkildkleleppaaGreatDoor
namespace Go.Proofs.YtkkildkleleppaaGreatDoor
open Go.RowKit


theorem loadR_eq {l x q : List UInt8} {m b : Bool} (h : cutX true false l = (x, q, b)) : loadR (l, m) = if m && (numO x).isSome && b then (match readS (q.length + 1) q 0 with | .error _ => .error 410 | .ok ts => .ok (C.of 4 ((numO x).getD 0) ts, false)) else .error 421 := by
  unfold loadR numS wordS
  cases m with
  | false => rfl
  | true =>
    simp only [if_true, h]
    cases hn : numO x with
    | none => rfl
    | some n =>
      cases b with
      | false => rfl
      | true => rfl
def firstE (o : Except Int (C × Bool)) : Except Int C := match o with | .error n => .error n | .ok x => .ok x.1
set_option maxRecDepth 100000 in
set_option maxHeartbeats 4000000 in
theorem rload_any (s : St) (hs : s.1.length ≤ 16777216) (w : World) (hE : Env w) :
    Calls Tryz.prog 51 #[.string ⟨s.1.toArray⟩, .bool s.2] w (ParseE w (firstE (loadR s))) := by
  obtain ⟨l, m⟩ := s
  simp only at hs ⊢
  obtain ⟨x1, q1, b1, h1⟩ : ∃ x r b, cutX true false l = (x, r, b) := ⟨_, _, _, rfl⟩
  have hx := cutX_len true false l
  rw [h1] at hx
  simp only at hx
  have HC1 := Lib.hid (rcut_at true l x1 q1 b1 (by omega) h1)
  have HN1 := Lib.hid (rnumb_at x1 (by omega))
  have hL := loadR_eq (m := m) h1
  have HRd := fun w' hE => refread_any ⟨q1.toArray⟩ (by rw [size_arr]; omega) w' hE
  unfold DRead at HRd
  rw [toList_arr] at HRd
  generalize (numO x1).getD 0 = n at HN1 hL
  generalize (numO x1).isSome = ok at HN1 hL
  have HEw := Lib.hid hE
  clear hx h1 hE
  obtain ⟨W0, hW0⟩ : ∃ W0, w.alloc (.cells #[.int .i64 0, .int .i64 0, .int .i64 0, .int .i64 0, .int .i64 0, .string ⟨#[]⟩, .slice none 0 0, .int .i64 0, .bool false, .slice none 0 0, .int .i64 0, .slice none 0 0] 47) = W0 := ⟨_, rfl⟩
  have HB0 : Hid (Below w.heap.size w W0) := Lib.hid (by rw [← hW0]; exact below_alloc _ _)
  have HR0 : Hid (CBox W0 w.heap.size) := Lib.hid (by rw [← hW0]; exact Blk.new _ _ _)
  by_cases hg : (m && ok && b1) = true
  · simp only [Bool.and_eq_true] at hg
    obtain ⟨⟨rfl, rfl⟩, rfl⟩ := hg
    simp only [Bool.and_self, if_true] at hL
    cases ho : readS (q1.length + 1) q1 0 with
    | error k =>
      rw [ho] at hL HRd
      have HX : Hid (firstE (loadR (l, true)) = .error 410) := Lib.hid (by rw [hL]; rfl)
      have HRd := Lib.hid HRd
      clear hL ho
      go_enter Tryz.func51, Tryz.ntmps51
      go_wp2_with (first
        | (go_at_call 45; refine (HC1.out _).mono ?_; rintro e w1 ⟨rfl, hb1⟩)
        | (go_at_call 103; refine (HN1.out _).mono ?_; rintro e w2 ⟨rfl, hb2⟩; have HB2 := Lib.hid (below_thn (below_thn HB0.out hb1) hb2))
        | (go_at_call 14; refine (HRd.out _ (HEw.out.below HB2.out)).mono ?_; rintro e w3 ⟨rfl, hb3⟩; have HR3 := Lib.hid (Blk.below (Blk.below (Blk.below HR0.out hb1) hb2) hb3); obtain ⟨r0, r1, r2, r3, r4, r5, r6, r7, r8, r9, r10, r11⟩ := CBox.cells HR3.out; obtain ⟨g0, g1, g2, g3, g4, g5, g6, g7, g8, g9, g10, g11⟩ := CBox.free HR3.out))
      refine bodyPost_ret (by simp [results, Tryz.results51, go_sem, r0, r1, r2, r3, r4, r5, r6, r7, r8, r9, r10, r11]; try rfl) rfl ?_
      exact ParseE.no HX.out (below_over (below_thn HB2.out hb3) ((((((((((((Moved.set w.heap.size 0 _ _).trans (Moved.set w.heap.size 1 _ _)).trans (Moved.set w.heap.size 2 _ _)).trans (Moved.set w.heap.size 3 _ _)).trans (Moved.set w.heap.size 4 _ _)).trans (Moved.set w.heap.size 5 _ _)).trans (Moved.set w.heap.size 6 _ _)).trans (Moved.set w.heap.size 7 _ _)).trans (Moved.set w.heap.size 8 _ _)).trans (Moved.set w.heap.size 9 _ _)).trans (Moved.set w.heap.size 10 _ _)).trans (Moved.set w.heap.size 11 _ _)) (Nat.le_refl _) (Nat.le_refl _))
    | ok ts =>
      rw [ho] at hL HRd
      have HX : Hid (firstE (loadR (l, true)) = .ok (C.of 4 n ts)) := Lib.hid (by rw [hL]; rfl)
      have HRd := Lib.hid HRd
      clear hL ho
      go_enter Tryz.func51, Tryz.ntmps51
      go_wp2_with (first
        | (go_at_call 45; refine (HC1.out _).mono ?_; rintro e w1 ⟨rfl, hb1⟩)
        | (go_at_call 103; refine (HN1.out _).mono ?_; rintro e w2 ⟨rfl, hb2⟩; have HB2 := Lib.hid (below_thn (below_thn HB0.out hb1) hb2))
        | (go_at_call 14; refine (HRd.out _ (HEw.out.below HB2.out)).mono ?_; rintro e w3 ⟨tv, xs, rfl, hown3, htr3, hb3⟩; obtain ⟨ta, tc, htv, -, -, -⟩ := own_form hown3; subst htv; have HR3 := Lib.hid (Blk.below (Blk.below (Blk.below HR0.out hb1) hb2) hb3); obtain ⟨r0, r1, r2, r3, r4, r5, r6, r7, r8, r9, r10, r11⟩ := CBox.cells HR3.out; obtain ⟨g0, g1, g2, g3, g4, g5, g6, g7, g8, g9, g10, g11⟩ := CBox.free HR3.out))
      refine bodyPost_ret (by simp [results, Tryz.results51, go_sem, r0, r1, r2, r3, r4, r5, r6, r7, r8, r9, r10, r11]; try rfl) rfl ?_
      have HC3 : OwnC w3 w.heap.size ((C.of 4 n ts).val (.slice none 0 0) (.slice none 0 0) (.slice ta ts.length tc)) (C.of 4 n ts) := ⟨_, _, _, xs, rfl, World.ownsRow_nil _ _ _ _, World.ownsRow_nil _ _ _ _, own_mono HB2.out.size hown3, TRow.mono htr3 HB2.out.size⟩
      exact ParseE.yes HX.out (HC3.movedR HR3.out ((((((((((((Moved.set w.heap.size 0 _ _).trans (Moved.set w.heap.size 1 _ _)).trans (Moved.set w.heap.size 2 _ _)).trans (Moved.set w.heap.size 3 _ _)).trans (Moved.set w.heap.size 4 _ _)).trans (Moved.set w.heap.size 5 _ _)).trans (Moved.set w.heap.size 6 _ _)).trans (Moved.set w.heap.size 7 _ _)).trans (Moved.set w.heap.size 8 _ _)).trans (Moved.set w.heap.size 9 _ _)).trans (Moved.set w.heap.size 10 _ _)).trans (Moved.set w.heap.size 11 _ _))) (below_over (below_thn HB2.out hb3) ((((((((((((Moved.set w.heap.size 0 _ _).trans (Moved.set w.heap.size 1 _ _)).trans (Moved.set w.heap.size 2 _ _)).trans (Moved.set w.heap.size 3 _ _)).trans (Moved.set w.heap.size 4 _ _)).trans (Moved.set w.heap.size 5 _ _)).trans (Moved.set w.heap.size 6 _ _)).trans (Moved.set w.heap.size 7 _ _)).trans (Moved.set w.heap.size 8 _ _)).trans (Moved.set w.heap.size 9 _ _)).trans (Moved.set w.heap.size 10 _ _)).trans (Moved.set w.heap.size 11 _ _)) (Nat.le_refl _) (Nat.le_refl _))
  · have HX : Hid (firstE (loadR (l, m)) = .error 421) := Lib.hid (by rw [hL, if_neg hg]; rfl)
    clear hL HRd
    obtain rfl | ⟨rfl, rfl⟩ | ⟨rfl, rfl, rfl⟩ : m = false ∨ (m = true ∧ ok = false) ∨ (m = true ∧ ok = true ∧ b1 = false) := by cases m <;> cases ok <;> cases b1 <;> simp_all
    all_goals
      clear hg
      go_enter Tryz.func51, Tryz.ntmps51
      go_wp2_with (first
        | (go_at_call 45; refine (HC1.out _).mono ?_; rintro e w1 ⟨rfl, hb1⟩)
        | (go_at_call 103; refine (HN1.out _).mono ?_; rintro e w2 ⟨rfl, hb2⟩; have HR2 := Lib.hid (Blk.below (Blk.below HR0.out hb1) hb2); obtain ⟨r0, r1, r2, r3, r4, r5, r6, r7, r8, r9, r10, r11⟩ := CBox.cells HR2.out; obtain ⟨g0, g1, g2, g3, g4, g5, g6, g7, g8, g9, g10, g11⟩ := CBox.free HR2.out))
      refine bodyPost_ret (by simp [results, Tryz.results51, go_sem, r0, r1, r2, r3, r4, r5, r6, r7, r8, r9, r10, r11]; try rfl) rfl ?_
      exact ParseE.no HX.out (below_over (below_thn (below_thn HB0.out hb1) hb2) ((((((((((((Moved.set w.heap.size 0 _ _).trans (Moved.set w.heap.size 1 _ _)).trans (Moved.set w.heap.size 2 _ _)).trans (Moved.set w.heap.size 3 _ _)).trans (Moved.set w.heap.size 4 _ _)).trans (Moved.set w.heap.size 5 _ _)).trans (Moved.set w.heap.size 6 _ _)).trans (Moved.set w.heap.size 7 _ _)).trans (Moved.set w.heap.size 8 _ _)).trans (Moved.set w.heap.size 9 _ _)).trans (Moved.set w.heap.size 10 _ _)).trans (Moved.set w.heap.size 11 _ _)) (Nat.le_refl _) (Nat.le_refl _))
end Go.Proofs.YtkkildkleleppaaGreatDoor
