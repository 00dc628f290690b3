/- value.Int, guess, Read. value.Read. -/
import Derived.Test.YtkkildkleleppaaGreatDoorJ08
import Derived.BigQuiet
import Derived.Handy
namespace Go.Proofs.YtkkildkleleppaaGreatDoor
open Go.RowKit

def guessV (l : List UInt8) : V :=
  match pIntO l with
  | some n => ⟨1, n, ByteArray.empty⟩
  | none =>
    if 2 ≤ l.length ∧ l[0]? = some 39 then ⟨2, 0, ⟨(undbl (innerL l 1)).toArray⟩⟩
    else if 3 ≤ l.length ∧ l[0]? = some 120 then
      match unhex (innerL l 2) with
      | some b => ⟨3, 0, ⟨b.toArray⟩⟩
      | none => ⟨0, 0, ByteArray.empty⟩
    else ⟨0, 0, ByteArray.empty⟩

theorem guessV_int {l : List UInt8} {n : Int} (h : pIntO l = some n) : guessV l = ⟨1, n, ByteArray.empty⟩ := by simp [guessV, h]
theorem guessV_text {l : List UInt8} (h : pIntO l = none) (h2 : 2 ≤ l.length) (h3 : l[0]? = some 39) : guessV l = ⟨2, 0, ⟨(undbl (innerL l 1)).toArray⟩⟩ := by simp [guessV, h, h2, h3]
theorem guessV_blob {l b : List UInt8} (h : pIntO l = none) (h2 : 3 ≤ l.length) (h3 : l[0]? = some 120) (h4 : unhex (innerL l 2) = some b) : guessV l = ⟨3, 0, ⟨b.toArray⟩⟩ := by simp [guessV, h, h2, h3, h4]
theorem guessV_noblob {l : List UInt8} (h : pIntO l = none) (h3 : l[0]? = some 120) (h4 : unhex (innerL l 2) = none) : guessV l = ⟨0, 0, ByteArray.empty⟩ := by simp [guessV, h, h3, h4]
theorem guessV_short {l : List UInt8} (h : pIntO l = none) (h2 : l.length < 2) : guessV l = ⟨0, 0, ByteArray.empty⟩ := by
  have h3 : ¬ 2 ≤ l.length := by omega
  have h4 : ¬ 3 ≤ l.length := by omega
  simp [guessV, h, h3, h4]
theorem guessV_none {l : List UInt8} (h : pIntO l = none) (h2 : l[0]? ≠ some 39) (h3 : l.length < 3 ∨ l[0]? ≠ some 120) : guessV l = ⟨0, 0, ByteArray.empty⟩ := by
  have h4 : ¬ (3 ≤ l.length ∧ l[0]? = some 120) := by
    rintro ⟨a, b⟩
    rcases h3 with h3 | h3
    · omega
    · exact h3 b
  simp [guessV, h, h2, h4]

theorem Int_any (n : Int) (w : World) : Calls Tryz.prog 181 #[.int .i64 n] w (Ret w (V.mk 1 n ByteArray.empty).val) := by
  simp only [V.val]
  go_enter Tryz.func181, Tryz.ntmps181
  go_wp2
  go_returns
  exact ⟨rfl, (Below.refl _ _).alloc (Nat.le_refl _) _⟩

theorem frozen_new (w : World) (cs : Array Value) (T : TypeId) (i : Nat) : (w.alloc (.cells cs T)).frozen? ⟨w.heap.size, i, none⟩ = false := by simp [go_sem]
theorem box_frozen {w w' : World} {cs : Array Value} {T : TypeId} (hb : Below (w.heap.size + 1) (w.alloc (.cells cs T)) w') (i : Nat) : w'.frozen? ⟨w.heap.size, i, none⟩ = false :=
  (hb.frozen (p := ⟨w.heap.size, i, none⟩) (by simp)).trans (frozen_new w cs T i)
/-- The three cells of a value's box. -/
theorem box3 {w w' : World} {a b c : Value} {T : TypeId} (hb : Below (w.heap.size + 1) (w.alloc (.cells #[a, b, c] T)) w') :
    w'.cell? ⟨w.heap.size, 0, none⟩ = some a ∧ w'.cell? ⟨w.heap.size, 1, none⟩ = some b ∧ w'.cell? ⟨w.heap.size, 2, none⟩ = some c ∧
    w'.frozen? ⟨w.heap.size, 0, none⟩ = false ∧ w'.frozen? ⟨w.heap.size, 1, none⟩ = false ∧ w'.frozen? ⟨w.heap.size, 2, none⟩ = false :=
  ⟨box_cell hb 0, box_cell hb 1, box_cell hb 2, box_frozen hb 0, box_frozen hb 1, box_frozen hb 2⟩

theorem box_set3 {w w' : World} {o : Obj} {a b c : Value} (hb : Below (w.heap.size + 1) (w.alloc o) w') :
    Below w.heap.size w (((w'.setCell ⟨w.heap.size, 0, none⟩ a).setCell ⟨w.heap.size, 1, none⟩ b).setCell ⟨w.heap.size, 2, none⟩ c) :=
  (((box_below hb).setCell (Nat.le_refl _) _).setCell (Nat.le_refl _) _).setCell (Nat.le_refl _) _


theorem Undbl_any (s : ByteArray) (l : List UInt8) (h : s.data.toList = l) (hs : s.size ≤ 1000000) (w : World) (hE : Env w) :
    Calls Tryz.prog 70 #[.string s, .string ⟨#[39, 39]⟩, .string ⟨#[39]⟩] w (Ret w (.string ⟨(undbl l).toArray⟩)) := by
  have h2 := ReplaceAll_any s ⟨#[39, 39]⟩ ⟨#[39]⟩ w hE (by omega) (by simp [ByteArray.size]) (by have := Lib.count_le s.data.toList [39, 39]; rw [size_len] at this; simp only [Lib.countB, ByteArray.size]; simp; omega)
  simp only at h2
  rw [show Lib.replaceAll s.data.toList [39, 39] [39] = undbl l by rw [replaceAll_undbl, h]] at h2
  exact h2

theorem extract_size_le (s : ByteArray) (a b : Nat) : (s.extract a b).size ≤ s.size := by
  rw [ByteArray.size_extract]; omega

set_option maxRecDepth 100000 in
set_option maxHeartbeats 1000000 in
theorem guess_any (s : ByteArray) (hs : s.size ≤ 1000000) (w : World) (hE : Env w) : Calls Tryz.prog 151 #[.string s] w (Ret w (guessV s.data.toList).val) := by
  have P1 := fun w' (hb : Below w.heap.size w w') => ParseInt_any s (by omega) w' (hE.below hb)
  unfold PIntEnd at P1
  cases hp : pIntO s.data.toList with
  | some n =>
    rw [guessV_int hp]
    simp only [hp] at P1
    simp only [V.val]
    go_enter Tryz.func151, Tryz.ntmps151
    go_wp2_with (first
      | (go_at_call 180; refine (P1 _ ((Below.refl _ _).alloc (Nat.le_refl _) _)).mono ?_; rintro e w1 ⟨rfl, hb1⟩; have hbx : Below (w.heap.size + 1) _ w1 := hb1.mono (by simp); have hz1 : w.heap.size + 1 ≤ w1.heap.size := by have := hb1.size; simpa using this)
      | (go_at_call 181; refine (Int_any n _).mono ?_; rintro e w2 ⟨rfl, hb2⟩; simp only [V.val]; have hb3 := hbx.trans (hb2.mono hz1); obtain ⟨c0, c1, c2, f0, f1, f2⟩ := box3 hb3))
    refine bodyPost_ret (by simp [results, Tryz.results151, go_sem, c0, c1, c2]; try rfl) rfl ?_
    exact ⟨rfl, box_set3 hb3⟩
  | none =>
    simp only [hp] at P1
    by_cases h0 : 0 < s.size
    · have hi := idx0 s h0
      by_cases h39 : s[0] = 39
      · by_cases h2 : 2 ≤ s.size
        · rw [guessV_text hp (by simpa using h2) (by rw [hi, h39])]
          have U := Lib.hid (Undbl_any (s.extract 1 (s.size - 1)) (innerL s.data.toList 1) (by rw [extract_list]; rfl) (Nat.le_trans (extract_size_le s _ _) hs))
          have hq : ((s[0].toNat : Int) == 39) = true := u8_eq h39
          simp only [V.val]
          clear hi h39
          go_enter Tryz.func151, Tryz.ntmps151
          go_wp2_with (first
            | (go_at_call 180; refine (P1 _ ((Below.refl _ _).alloc (Nat.le_refl _) _)).mono ?_; rintro e w1 ⟨n, t, p, rfl, hb1⟩; have hbx : Below (w.heap.size + 1) _ w1 := hb1.mono (by simp); have hz1 : w.heap.size + 1 ≤ w1.heap.size := by have := hb1.size; simpa using this)
            | (go_at_call 70; refine (U.out w1 (hE.below (box_below hbx))).mono ?_; rintro e w2 ⟨rfl, hb2⟩; have hb3 := hbx.trans (hb2.mono hz1); obtain ⟨c0, c1, c2, f0, f1, f2⟩ := box3 hb3))
          refine bodyPost_ret (by simp [results, Tryz.results151, go_sem, c0, c1, c2]; try rfl) rfl ?_
          exact ⟨rfl, box_set3 hb3⟩
        · rw [guessV_short hp (by simpa using h2)]
          simp only [V.val]
          clear hi h39
          go_enter Tryz.func151, Tryz.ntmps151
          go_wp2_with (go_at_call 180; refine (P1 _ ((Below.refl _ _).alloc (Nat.le_refl _) _)).mono ?_; rintro e w1 ⟨n, t, p, rfl, hb1⟩; have hbx : Below (w.heap.size + 1) _ w1 := hb1.mono (by simp); obtain ⟨c0, c1, c2, f0, f1, f2⟩ := box3 hbx)
          refine bodyPost_ret (by simp [results, Tryz.results151, go_sem, c0, c1, c2]; try rfl) rfl ?_
          exact ⟨rfl, box_set3 hbx⟩
      · have hn39 : s.data.toList[0]? ≠ some 39 := by rw [hi]; simpa using h39
        have hq : ((s[0].toNat : Int) == 39) = false := u8_ne h39
        by_cases h120 : s[0] = 120
        · by_cases h3 : 3 ≤ s.size
          · have U := Lib.hid (hex_any (s.extract 2 (s.size - 1)) (by have := extract_size_le s 2 (s.size - 1); omega))
            have hEx : (s.extract 2 (s.size - 1)).data.toList = innerL s.data.toList 2 := by rw [extract_list]; rfl
            have hq2 : ((s[0].toNat : Int) == 120) = true := u8_eq h120
            have hlt : (2 : Int) ≤ s.size := by omega
            have hi120 : s.data.toList[0]? = some 120 := by rw [hi, h120]
            cases hu : unhex (innerL s.data.toList 2) with
            | some y =>
              rw [guessV_blob hp (by simpa using h3) hi120 hu]
              have H2 : Hid (unhex (s.extract 2 (s.size - 1)).data.toList = some y) := Lib.hid (by rw [hEx, hu])
              simp only [V.val]
              clear hi h39 h120 hi120 hEx hn39 hu
              go_enter Tryz.func151, Tryz.ntmps151
              go_wp2_with (first
                | (go_at_call 180; refine (P1 _ ((Below.refl _ _).alloc (Nat.le_refl _) _)).mono ?_; rintro e w1 ⟨n, t, p, rfl, hb1⟩; have hbx : Below (w.heap.size + 1) _ w1 := hb1.mono (by simp); have hz1 : w.heap.size + 1 ≤ w1.heap.size := by have := hb1.size; simpa using this)
                | (go_at_call 182; refine (U.out w1).mono ?_; rintro e w2 ⟨x, ⟨rfl, hb2⟩, hx⟩; have hxe := hx y H2.out; subst hxe; rw [H2.out]; clear hx; have hb3 := hbx.trans (hb2.mono hz1); obtain ⟨c0, c1, c2, f0, f1, f2⟩ := box3 hb3))
              refine bodyPost_ret (by simp [results, Tryz.results151, go_sem, c0, c1, c2]; try rfl) rfl ?_
              exact ⟨rfl, box_set3 hb3⟩
            | none =>
              rw [guessV_noblob hp hi120 hu]
              have H2 : Hid (unhex (s.extract 2 (s.size - 1)).data.toList = none) := Lib.hid (by rw [hEx, hu])
              simp only [V.val]
              clear hi h39 h120 hi120 hEx hn39 hu
              go_enter Tryz.func151, Tryz.ntmps151
              go_wp2_with (first
                | (go_at_call 180; refine (P1 _ ((Below.refl _ _).alloc (Nat.le_refl _) _)).mono ?_; rintro e w1 ⟨n, t, p, rfl, hb1⟩; have hbx : Below (w.heap.size + 1) _ w1 := hb1.mono (by simp); have hz1 : w.heap.size + 1 ≤ w1.heap.size := by have := hb1.size; simpa using this)
                | (go_at_call 182; refine (U.out w1).mono ?_; rintro e w2 ⟨x, ⟨rfl, hb2⟩, hx⟩; rw [H2.out]; clear hx; have hb3 := hbx.trans (hb2.mono hz1); obtain ⟨c0, c1, c2, f0, f1, f2⟩ := box3 hb3))
              refine bodyPost_ret (by simp [results, Tryz.results151, go_sem, c0, c1, c2]; try rfl) rfl ?_
              exact ⟨rfl, box_set3 hb3⟩
          · rw [guessV_none hp hn39 (.inl (by simpa using h3))]
            simp only [V.val]
            clear hi h39 h120 hn39
            by_cases h2 : 2 ≤ s.size
            all_goals
              go_enter Tryz.func151, Tryz.ntmps151
              go_wp2_with (go_at_call 180; refine (P1 _ ((Below.refl _ _).alloc (Nat.le_refl _) _)).mono ?_; rintro e w1 ⟨n, t, p, rfl, hb1⟩; have hbx : Below (w.heap.size + 1) _ w1 := hb1.mono (by simp); obtain ⟨c0, c1, c2, f0, f1, f2⟩ := box3 hbx)
              refine bodyPost_ret (by simp [results, Tryz.results151, go_sem, c0, c1, c2]; try rfl) rfl ?_
              exact ⟨rfl, box_set3 hbx⟩
        · rw [guessV_none hp hn39 (.inr (by rw [hi]; simpa using h120))]
          have hq2 : ((s[0].toNat : Int) == 120) = false := u8_ne h120
          simp only [V.val]
          clear hi h39 h120 hn39
          by_cases h3 : 3 ≤ s.size
          · have h2 : 2 ≤ s.size := by omega
            go_enter Tryz.func151, Tryz.ntmps151
            go_wp2_with (go_at_call 180; refine (P1 _ ((Below.refl _ _).alloc (Nat.le_refl _) _)).mono ?_; rintro e w1 ⟨n, t, p, rfl, hb1⟩; have hbx : Below (w.heap.size + 1) _ w1 := hb1.mono (by simp); obtain ⟨c0, c1, c2, f0, f1, f2⟩ := box3 hbx)
            refine bodyPost_ret (by simp [results, Tryz.results151, go_sem, c0, c1, c2]; try rfl) rfl ?_
            exact ⟨rfl, box_set3 hbx⟩
          · by_cases h2 : 2 ≤ s.size
            all_goals
              go_enter Tryz.func151, Tryz.ntmps151
              go_wp2_with (go_at_call 180; refine (P1 _ ((Below.refl _ _).alloc (Nat.le_refl _) _)).mono ?_; rintro e w1 ⟨n, t, p, rfl, hb1⟩; have hbx : Below (w.heap.size + 1) _ w1 := hb1.mono (by simp); obtain ⟨c0, c1, c2, f0, f1, f2⟩ := box3 hbx)
              refine bodyPost_ret (by simp [results, Tryz.results151, go_sem, c0, c1, c2]; try rfl) rfl ?_
              exact ⟨rfl, box_set3 hbx⟩
    · rw [guessV_short hp (by simp; omega)]
      simp only [V.val]
      go_enter Tryz.func151, Tryz.ntmps151
      go_wp2_with (go_at_call 180; refine (P1 _ ((Below.refl _ _).alloc (Nat.le_refl _) _)).mono ?_; rintro e w1 ⟨n, t, p, rfl, hb1⟩; have hbx : Below (w.heap.size + 1) _ w1 := hb1.mono (by simp); obtain ⟨c0, c1, c2, f0, f1, f2⟩ := box3 hbx)
      refine bodyPost_ret (by simp [results, Tryz.results151, go_sem, c0, c1, c2]; try rfl) rfl ?_
      exact ⟨rfl, box_set3 hbx⟩
end Go.Proofs.YtkkildkleleppaaGreatDoor
namespace Go.Proofs.YtkkildkleleppaaGreatDoor
open Go.RowKit

/-- The value of a literal; none: it is none. -/
def readV (l : List UInt8) : Option V := if l.length ≤ 1000 ∧ (guessV l).may = true ∧ (guessV l).lit = l then some (guessV l) else none
def ReadEnd (l : List UInt8) (w : World) (e : Ending) (w' : World) : Prop :=
  match readV l with
  | some v => Ret w (.tuple #[v.val, .int .i64 0]) e w'
  | none => ∃ n : Int, (n == 0) = false ∧ Ret w (.tuple #[(V.mk 0 0 ByteArray.empty).val, .int .i64 n]) e w'

theorem guess_fit (l : List UInt8) : (guessV l).fit := by
  unfold guessV
  split
  · rename_i n h
    unfold pIntO at h
    split at h
    · rename_i v hv
      injection h with h; subst h
      have := Lib.parseIntB_bounds hv
      simp only [V.fit]
      have e : ((2 ^ (64 - 1) : Nat) : Int) = 9223372036854775808 := by decide
      omega
    · cases h
  · split
    · simp [V.fit]
    · split
      · split <;> simp [V.fit]
      · simp [V.fit]

theorem arr_eq {l : List UInt8} {s : ByteArray} (h : l = s.data.toList) : (⟨l.toArray⟩ : ByteArray) = s := by subst h; simp
theorem str_ne {q s : ByteArray} (h : ¬ q = s) : (q.toList == s.toList) = false := by
  rw [beq_eq_false_iff_ne, toList_data, toList_data]
  intro e; apply h; cases q; cases s; simp at e; rw [e]
theorem arr_ne {l : List UInt8} {s : ByteArray} (h : ¬ l = s.data.toList) : ¬ (⟨l.toArray⟩ : ByteArray) = s := by
  intro e; apply h; rw [← e]


set_option maxRecDepth 100000 in
set_option maxHeartbeats 1000000 in
theorem Read_any (s : ByteArray) (hs : s.size ≤ 140737488355328) (w : World) (hE : Env w) : Calls Tryz.prog 122 #[.string s] w (ReadEnd s.data.toList w) := by
  unfold ReadEnd
  by_cases hl : 1000 < s.size
  · have hr : readV s.data.toList = none := by
      have : ¬ s.data.toList.length ≤ 1000 := by simp; omega
      simp only [readV, this, false_and, if_false]
    rw [hr]
    simp only [V.val]
    go_enter Tryz.func122, Tryz.ntmps122
    go_wp2
    refine bodyPost_ret (by simp [results, Tryz.results122, go_sem]; try rfl) rfl ?_
    exact ⟨3, rfl, rfl, by go_grown⟩
  · have G := Lib.hid (guess_any s (by omega))
    have PF := Lib.hid (fun w' h => Print_any (guessV s.data.toList) (guess_fit _) (w := w') h)
    have hlL : s.data.toList.length ≤ 1000 := by simp; omega
    have HV : Hid (readV s.data.toList = if (guessV s.data.toList).may = true ∧ (guessV s.data.toList).lit = s.data.toList then some (guessV s.data.toList) else none) := by
      apply Lib.hid; simp only [readV, hlL, true_and]
    generalize guessV s.data.toList = v at G PF HV
    cases hm : v.may with
    | false =>
      have hr : readV s.data.toList = none := by rw [HV.out, hm]; simp
      rw [hr]
      have HL : Hid (v.litE = 2) := Lib.hid (by simp [V.litE, hm])
      simp only [V.val] at G PF ⊢
      clear hm
      go_enter Tryz.func122, Tryz.ntmps122
      go_wp2_with (first
        | (go_at_call 151; refine (G.out _ (hE.below ((Below.refl _ _).alloc (Nat.le_refl _) _))).mono ?_; rintro e w1 ⟨rfl, hb1⟩; have hbx : Below (w.heap.size + 1) _ w1 := hb1.mono (by simp); have hz1 : w.heap.size + 1 ≤ w1.heap.size := by have := hb1.size; simpa using this)
        | (go_at_call 28; refine (PF.out _ (hE.below ((box_below hbx).alloc (by omega) _))).mono ?_; rw [HL.out]; rintro e w2 ⟨rfl, hb2⟩; have hb2x : Below (w1.heap.size + 1) _ w2 := hb2.mono (by simp); have hb3 : Below (w.heap.size + 1) _ w2 := hbx.trans (((Below.refl _ _).alloc hz1 _).trans (hb2x.mono (by omega))); obtain ⟨c0, c1, c2, f0, f1, f2⟩ := box3 hb3; obtain ⟨d0, d1, d2, -, -, -⟩ := box3 hb2x))
      refine bodyPost_ret (by simp [results, Tryz.results122, go_sem, c0, c1, c2]; try rfl) rfl ?_
      exact ⟨120, rfl, rfl, box_set3 hb3⟩
    | true =>
      have HL : Hid (v.litE = 0) := Lib.hid (by simp [V.litE, hm])
      by_cases hq : v.lit = s.data.toList
      · have hr : readV s.data.toList = some v := by rw [HV.out, hm]; simp [hq]
        rw [hr]
        rw [hq] at PF
        simp only [V.val] at G PF ⊢
        clear hm hq
        go_enter Tryz.func122, Tryz.ntmps122
        go_wp2_with (first
        | (go_at_call 151; refine (G.out _ (hE.below ((Below.refl _ _).alloc (Nat.le_refl _) _))).mono ?_; rintro e w1 ⟨rfl, hb1⟩; have hbx : Below (w.heap.size + 1) _ w1 := hb1.mono (by simp); have hz1 : w.heap.size + 1 ≤ w1.heap.size := by have := hb1.size; simpa using this)
        | (go_at_call 28; refine (PF.out _ (hE.below ((box_below hbx).alloc (by omega) _))).mono ?_; rw [HL.out]; rintro e w2 ⟨rfl, hb2⟩; have hb2x : Below (w1.heap.size + 1) _ w2 := hb2.mono (by simp); have hb3 : Below (w.heap.size + 1) _ w2 := hbx.trans (((Below.refl _ _).alloc hz1 _).trans (hb2x.mono (by omega))); obtain ⟨c0, c1, c2, f0, f1, f2⟩ := box3 hb3; obtain ⟨d0, d1, d2, -, -, -⟩ := box3 hb2x))
        refine bodyPost_ret (by simp [results, Tryz.results122, go_sem, c0, c1, c2]; try rfl) rfl ?_
        exact ⟨rfl, box_set3 hb3⟩
      · have hr : readV s.data.toList = none := by rw [HV.out, hm]; simp [hq]
        rw [hr]
        have hne := arr_ne hq
        simp only [V.val] at G PF ⊢
        clear hm hq
        generalize (⟨v.lit.toArray⟩ : ByteArray) = q at PF hne
        have hne2 : (q.toList == s.toList) = false := str_ne hne
        go_enter Tryz.func122, Tryz.ntmps122
        go_wp2_with (first
        | (go_at_call 151; refine (G.out _ (hE.below ((Below.refl _ _).alloc (Nat.le_refl _) _))).mono ?_; rintro e w1 ⟨rfl, hb1⟩; have hbx : Below (w.heap.size + 1) _ w1 := hb1.mono (by simp); have hz1 : w.heap.size + 1 ≤ w1.heap.size := by have := hb1.size; simpa using this)
        | (go_at_call 28; refine (PF.out _ (hE.below ((box_below hbx).alloc (by omega) _))).mono ?_; rw [HL.out]; rintro e w2 ⟨rfl, hb2⟩; have hb2x : Below (w1.heap.size + 1) _ w2 := hb2.mono (by simp); have hb3 : Below (w.heap.size + 1) _ w2 := hbx.trans (((Below.refl _ _).alloc hz1 _).trans (hb2x.mono (by omega))); obtain ⟨c0, c1, c2, f0, f1, f2⟩ := box3 hb3; obtain ⟨d0, d1, d2, -, -, -⟩ := box3 hb2x))
        refine bodyPost_ret (by simp [results, Tryz.results122, go_sem, c0, c1, c2]; try rfl) rfl ?_
        exact ⟨120, rfl, rfl, box_set3 hb3⟩
end Go.Proofs.YtkkildkleleppaaGreatDoor
