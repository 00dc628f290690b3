/- value.Read. -/
import Derived.Test.YtkkildkleleppaaDoorGuess
namespace Go.Proofs.YtkkildkleleppaaDoor
open Go.RowKit

/-- The value of a literal; none: it is none. -/
def readV (l : List UInt8) : Option V := if l.length ≤ 1000 ∧ (guessV l).may = true ∧ (guessV l).lit = l then some (guessV l) else none
def ReadEnd (l : List UInt8) (w : World) (e : Ending) (w' : World) : Prop :=
  match readV l with
  | some v => Ret w (.tuple #[v.val, .int .i64 0]) e w'
  | none => ∃ n : Int, (n == 0) = false ∧ Ret w (.tuple #[(V.mk 0 0 ByteArray.empty).val, .int .i64 n]) e w'

theorem guess_fit (l : List UInt8) : (guessV l).fit := by
  unfold guessV
  split
  · rename_i n h
    unfold pIntO at h
    split at h
    · rename_i v hv
      injection h with h; subst h
      have := Lib.parseIntB_bounds hv
      simp only [V.fit]
      have e : ((2 ^ (64 - 1) : Nat) : Int) = 9223372036854775808 := by decide
      omega
    · cases h
  · split
    · simp [V.fit]
    · split
      · split <;> simp [V.fit]
      · simp [V.fit]

theorem arr_eq {l : List UInt8} {s : ByteArray} (h : l = s.data.toList) : (⟨l.toArray⟩ : ByteArray) = s := by subst h; simp
theorem str_ne {q s : ByteArray} (h : ¬ q = s) : (q.toList == s.toList) = false := by
  rw [beq_eq_false_iff_ne, toList_data, toList_data]
  intro e; apply h; cases q; cases s; simp at e; rw [e]
theorem arr_ne {l : List UInt8} {s : ByteArray} (h : ¬ l = s.data.toList) : ¬ (⟨l.toArray⟩ : ByteArray) = s := by
  intro e; apply h; rw [← e]


set_option maxRecDepth 100000 in
set_option maxHeartbeats 1000000 in
theorem Read_any (s : ByteArray) (hs : s.size ≤ 140737488355328) (w : World) (hE : Env w) : Calls Tryd.prog 37 #[.string s] w (ReadEnd s.data.toList w) := by
  unfold ReadEnd
  by_cases hl : 1000 < s.size
  · have hr : readV s.data.toList = none := by
      have : ¬ s.data.toList.length ≤ 1000 := by simp; omega
      simp only [readV, this, false_and, if_false]
    rw [hr]
    simp only [V.val]
    go_enter Tryd.func37, Tryd.ntmps37
    go_wp2
    refine bodyPost_ret (by simp [results, Tryd.results37, go_sem]; try rfl) rfl ?_
    exact ⟨3, rfl, rfl, by go_grown⟩
  · have G := Lib.hid (guess_any s (by omega))
    have PF := Lib.hid (fun w' h => Print_any (guessV s.data.toList) (guess_fit _) (w := w') h)
    have hlL : s.data.toList.length ≤ 1000 := by simp; omega
    have HV : Hid (readV s.data.toList = if (guessV s.data.toList).may = true ∧ (guessV s.data.toList).lit = s.data.toList then some (guessV s.data.toList) else none) := by
      apply Lib.hid; simp only [readV, hlL, true_and]
    generalize guessV s.data.toList = v at G PF HV
    cases hm : v.may with
    | false =>
      have hr : readV s.data.toList = none := by rw [HV.out, hm]; simp
      rw [hr]
      have HL : Hid (v.litE = 2) := Lib.hid (by simp [V.litE, hm])
      simp only [V.val] at G PF ⊢
      clear hm
      go_enter Tryd.func37, Tryd.ntmps37
      go_wp2_with (first
        | (go_at_call 49; refine (G.out _ (hE.below ((Below.refl _ _).alloc (Nat.le_refl _) _))).mono ?_; rintro e w1 ⟨rfl, hb1⟩; have hbx : Below (w.heap.size + 1) _ w1 := hb1.mono (by simp); have hz1 : w.heap.size + 1 ≤ w1.heap.size := by have := hb1.size; simpa using this)
        | (go_at_call 12; refine (PF.out _ (hE.below ((box_below hbx).alloc (by omega) _))).mono ?_; rw [HL.out]; rintro e w2 ⟨rfl, hb2⟩; have hb2x : Below (w1.heap.size + 1) _ w2 := hb2.mono (by simp); have hb3 : Below (w.heap.size + 1) _ w2 := hbx.trans (((Below.refl _ _).alloc hz1 _).trans (hb2x.mono (by omega))); obtain ⟨c0, c1, c2, f0, f1, f2⟩ := box3 hb3; obtain ⟨d0, d1, d2, -, -, -⟩ := box3 hb2x))
      refine bodyPost_ret (by simp [results, Tryd.results37, go_sem, c0, c1, c2]; try rfl) rfl ?_
      exact ⟨120, rfl, rfl, box_set3 hb3⟩
    | true =>
      have HL : Hid (v.litE = 0) := Lib.hid (by simp [V.litE, hm])
      by_cases hq : v.lit = s.data.toList
      · have hr : readV s.data.toList = some v := by rw [HV.out, hm]; simp [hq]
        rw [hr]
        rw [hq] at PF
        simp only [V.val] at G PF ⊢
        clear hm hq
        go_enter Tryd.func37, Tryd.ntmps37
        go_wp2_with (first
        | (go_at_call 49; refine (G.out _ (hE.below ((Below.refl _ _).alloc (Nat.le_refl _) _))).mono ?_; rintro e w1 ⟨rfl, hb1⟩; have hbx : Below (w.heap.size + 1) _ w1 := hb1.mono (by simp); have hz1 : w.heap.size + 1 ≤ w1.heap.size := by have := hb1.size; simpa using this)
        | (go_at_call 12; refine (PF.out _ (hE.below ((box_below hbx).alloc (by omega) _))).mono ?_; rw [HL.out]; rintro e w2 ⟨rfl, hb2⟩; have hb2x : Below (w1.heap.size + 1) _ w2 := hb2.mono (by simp); have hb3 : Below (w.heap.size + 1) _ w2 := hbx.trans (((Below.refl _ _).alloc hz1 _).trans (hb2x.mono (by omega))); obtain ⟨c0, c1, c2, f0, f1, f2⟩ := box3 hb3; obtain ⟨d0, d1, d2, -, -, -⟩ := box3 hb2x))
        refine bodyPost_ret (by simp [results, Tryd.results37, go_sem, c0, c1, c2]; try rfl) rfl ?_
        exact ⟨rfl, box_set3 hb3⟩
      · have hr : readV s.data.toList = none := by rw [HV.out, hm]; simp [hq]
        rw [hr]
        have hne := arr_ne hq
        simp only [V.val] at G PF ⊢
        clear hm hq
        generalize (⟨v.lit.toArray⟩ : ByteArray) = q at PF hne
        have hne2 : (q.toList == s.toList) = false := str_ne hne
        go_enter Tryd.func37, Tryd.ntmps37
        go_wp2_with (first
        | (go_at_call 49; refine (G.out _ (hE.below ((Below.refl _ _).alloc (Nat.le_refl _) _))).mono ?_; rintro e w1 ⟨rfl, hb1⟩; have hbx : Below (w.heap.size + 1) _ w1 := hb1.mono (by simp); have hz1 : w.heap.size + 1 ≤ w1.heap.size := by have := hb1.size; simpa using this)
        | (go_at_call 12; refine (PF.out _ (hE.below ((box_below hbx).alloc (by omega) _))).mono ?_; rw [HL.out]; rintro e w2 ⟨rfl, hb2⟩; have hb2x : Below (w1.heap.size + 1) _ w2 := hb2.mono (by simp); have hb3 : Below (w.heap.size + 1) _ w2 := hbx.trans (((Below.refl _ _).alloc hz1 _).trans (hb2x.mono (by omega))); obtain ⟨c0, c1, c2, f0, f1, f2⟩ := box3 hb3; obtain ⟨d0, d1, d2, -, -, -⟩ := box3 hb2x))
        refine bodyPost_ret (by simp [results, Tryd.results37, go_sem, c0, c1, c2]; try rfl) rfl ?_
        exact ⟨120, rfl, rfl, box_set3 hb3⟩
end Go.Proofs.YtkkildkleleppaaDoor
