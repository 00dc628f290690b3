/- The shell's reader: need, word, number, all. The shell's reader: number, all. -/
import Derived.Test.YtkkildkleleppaaGreatDoorJ16
import Derived.Test.YtkkildkleleppaaGreatDoorJ11
import Derived.Lib.ParseIntBTie
namespace Go.Proofs.YtkkildkleleppaaGreatDoor
open Go.RowKit

theorem cut_cutX : ∀ l : List UInt8, Lib.cut l [32] = cutX true false l
  | [] => by simp [Lib.cut, Lib.index, cutX]
  | c :: r => by
    have ih := cut_cutX r
    have hge := Lib.index_ge r [32]
    by_cases hc : c = 32
    · subst hc
      simp [Lib.cut, Lib.index, cutX, togP]
    · have hp : ([32] : List UInt8).isPrefixOf (c :: r) = false := by
        simp [List.isPrefixOf]
        intro e; exact hc e.symm
      have hx : cutX true false (c :: r) = (c :: (cutX true false r).1, (cutX true false r).2) := by simp [cutX, togP, hc]
      rw [hx, ← ih]
      unfold Lib.cut
      rw [show Lib.index (c :: r) [32] = if Lib.index r [32] == -1 then -1 else Lib.index r [32] + 1 by rw [Lib.index, hp]; simp]
      by_cases h0 : Lib.index r [32] = -1
      · simp [h0]
      · have h1 : 0 ≤ Lib.index r [32] := by omega
        have h2 : (Lib.index r [32] == -1) = false := by simpa using h0
        have h3 : (Lib.index r [32] + 1).toNat = (Lib.index r [32]).toNat + 1 := by omega
        rw [h2]
        simp only [Bool.false_eq_true, if_false]
        rw [if_pos h1, if_pos (by omega), h3]
        simp
theorem cutX_len (p : Bool) (q : Bool) (l : List UInt8) : (cutX p q l).1.length ≤ l.length ∧ (cutX p q l).2.1.length ≤ l.length := by
  induction l generalizing q with
  | nil => simp [cutX]
  | cons c r ih =>
    simp only [cutX]
    split
    · simp
    · have := ih (togP p q c)
      simp; omega
theorem word_len {s s' : St} {x : List UInt8} (h : wordS s = some (x, s')) : x.length ≤ s.1.length ∧ s'.1.length ≤ s.1.length := by
  unfold wordS at h
  split at h
  · injection h with h
    injection h with h1 h2
    subst h1 h2
    exact cutX_len _ _ _
  · cases h
theorem num_len {s s' : St} {n : Int} (h : numS s = some (n, s')) : s'.1.length ≤ s.1.length := by
  unfold numS at h
  split at h
  · cases h
  · rename_i x hx
    cases hn : numO x.1 with
    | none => rw [hn] at h; cases h
    | some m =>
      rw [hn] at h
      simp only [Option.map_some, Option.some.injEq, Prod.mk.injEq] at h
      obtain ⟨rfl, rfl⟩ := h
      exact (word_len (x := x.1) (s' := x.2) hx).2

theorem atoiO_itoa (n : Int) (h0 : -9223372036854775808 ≤ n) (h1 : n ≤ 9223372036854775807) : atoiO (Lib.itoa n) = some n := by
  unfold atoiO
  rw [← Lib.parseIntB_64, parseIntB_itoa n h0 h1]
theorem atoiO_fit {l : List UInt8} {n : Int} (h : atoiO l = some n) : In64 n := by
  unfold atoiO at h
  split at h
  · rename_i v hv
    injection h with h
    subst h
    exact Lib.atoiAll_bounds hv
  · cases h
theorem numO_atoi {w : List UInt8} {n : Int} (h : numO w = some n) : atoiO w = some n := by
  obtain ⟨h1, h2, h3⟩ := numO_sound h
  have := atoiO_itoa n (by omega) (by omega)
  rwa [h1] at this
theorem numO_none {w : List UInt8} (h : atoiO w = none) : numO w = none := by
  cases hn : numO w with
  | none => rfl
  | some n => rw [numO_atoi hn] at h; cases h
theorem numO_no {w : List UInt8} {n : Int} (h : atoiO w = some n) (hb : n < 0 ∨ 999999999 < n ∨ Lib.itoa n ≠ w) : numO w = none := by
  cases hn : numO w with
  | none => rfl
  | some m =>
    rw [numO_atoi hn] at h
    injection h with h
    subst h
    obtain ⟨h1, h2, h3⟩ := numO_sound hn
    rcases hb with hb | hb | hb
    · omega
    · omega
    · exact absurd h1 hb
theorem numO_yes {w : List UInt8} {n : Int} (h0 : 0 ≤ n) (h1 : n ≤ 999999999) (h : Lib.itoa n = w) : numO w = some n := by rw [← h]; exact numO_itoa h0 h1

/-! ### The reader's block -/
def IsQ (w : World) (b : Nat) (s : St) : Prop :=
  w.cell? ⟨b, 0, none⟩ = some (.string ⟨s.1.toArray⟩) ∧ w.cell? ⟨b, 1, none⟩ = some (.bool s.2) ∧ w.frozen? ⟨b, 0, none⟩ = false ∧ w.frozen? ⟨b, 1, none⟩ = false
theorem IsQ.lt {w : World} {b : Nat} {s : St} (h : IsQ w b s) : b < w.heap.size := lt_of_cell h.1
theorem IsQ.below {w w' : World} {b : Nat} {s : St} (h : IsQ w b s) (hb : Below w.heap.size w w') : IsQ w' b s :=
  ⟨(hb.cell h.lt).trans h.1, (hb.cell h.lt).trans h.2.1, (hb.frozen h.lt).trans h.2.2.1, (hb.frozen h.lt).trans h.2.2.2⟩
theorem IsQ.alloc {w : World} {b : Nat} {s : St} (h : IsQ w b s) (o : Obj) : IsQ (w.alloc o) b s := h.below ((Below.refl _ _).alloc (Nat.le_refl _) o)
theorem IsQ.drewN {w : World} {b : Nat} {s : St} (h : IsQ w b s) (n : Nat) : IsQ (w.drewN n) b s := h
theorem IsQ.set {w : World} {b : Nat} {s : St} (h : IsQ w b s) (l : List UInt8) (m : Bool) : IsQ ((w.setCell ⟨b, 0, none⟩ (.string ⟨l.toArray⟩)).setCell ⟨b, 1, none⟩ (.bool m)) b (l, m) := by
  obtain ⟨h0, h1, h2, h3⟩ := h
  refine ⟨?_, ?_, ?_, ?_⟩ <;> simp [go_sem, h0, h1, h2, h3]
theorem IsQ.set1 {w : World} {b : Nat} {s : St} (h : IsQ w b s) (m : Bool) : IsQ (w.setCell ⟨b, 1, none⟩ (.bool m)) b (s.1, m) := by
  obtain ⟨h0, h1, h2, h3⟩ := h
  refine ⟨?_, ?_, ?_, ?_⟩ <;> simp [go_sem, h0, h1, h2, h3]
theorem IsQ.setO {w : World} {b : Nat} {s : St} (h : IsQ w b s) {p : Addr} (hp : p.block ≠ b) (v : Value) : IsQ (w.setCell p v) b s := by
  have hk : (w.setCell p v).heap[b]? = w.heap[b]? := Below.heap_setCell _ _ _ _ (fun e => hp e.symm)
  refine ⟨?_, ?_, ?_, ?_⟩
  · have := h.1; unfold World.cell? at *; rw [hk]; exact this
  · have := h.2.1; unfold World.cell? at *; rw [hk]; exact this
  · have := h.2.2.1; exact (World.frozen?_of_block (w := w) (w' := w.setCell p v) (a := ⟨b, 0, none⟩) hk).trans this
  · have := h.2.2.2; exact (World.frozen?_of_block (w := w) (w' := w.setCell p v) (a := ⟨b, 1, none⟩) hk).trans this

def wrong32 (e : Int) : List PanicEntry := [{ v := .iface 108 (.agg #[.int .i64 e]), recovered := false }]
theorem sneed_ok (w : World) : Calls Tryz.prog 44 #[.bool true] w fun e w' => e = .returned (.tuple #[]) ∧ w' = w := by
  go_enter Tryz.func44, Tryz.ntmps44
  go_wp2
  go_returns
  exact ⟨rfl, rfl⟩
theorem sneed_no (w : World) : Calls Tryz.prog 44 #[.bool false] w fun e w' => e = .panicked (wrong32 421) ∧ w' = w := by
  go_enter Tryz.func44, Tryz.ntmps44
  go_wp2
  exact ⟨rfl, rfl, rfl⟩

/-- A method of the reader is through: what it returns, the state behind; none: it panics. -/
def QE (b : Nat) (w : World) (o : Option (Value × St)) (e : Ending) (w' : World) : Prop :=
  match o with
  | some (v, s) => e = .returned v ∧ IsQ w' b s ∧ Moved b w w'
  | none => e = .panicked (wrong32 421) ∧ Moved b w w'
def strV (x : List UInt8 × St) : Value × St := (.string ⟨x.1.toArray⟩, x.2)
def intV (x : Int × St) : Value × St := (.int .i64 x.1, x.2)

set_option maxHeartbeats 400000 in
theorem word_any (b : Nat) (s : St) (hl : s.1.length ≤ 100000000) (w : World) (h : IsQ w b s) (hE : EnvB b w) :
    Calls Tryz.prog 134 #[.pointer (some ⟨b, 0, none⟩)] w (QE b w ((wordS s).map strV)) := by
  obtain ⟨l, m⟩ := s
  have hbl := h.lt
  have q0 := h.1
  have q1 := h.2.1
  have HQ := Lib.hid h
  simp only at hl q0 q1
  cases m with
  | false =>
    have HW : Hid (wordS (l, false) = none) := Lib.hid rfl
    clear h hl
    go_enter Tryz.func134, Tryz.ntmps134
    go_wp2_with (go_at_call 44; refine (sneed_no _).mono ?_; rintro e w1 ⟨rfl, rfl⟩)
    refine ⟨rfl, ?_⟩
    rw [HW.out]
    exact ⟨rfl, Moved.refl _ _⟩
  | true =>
    have HW : Hid (wordS (l, true) = some ((cutX true false l).1, (cutX true false l).2)) := Lib.hid rfl
    have hsz : (⟨l.toArray⟩ : ByteArray).size = l.length := by simp [ByteArray.size]
    have hC := Cut_any ⟨l.toArray⟩ ⟨#[32]⟩ w hE.env (by omega)
    have e1 : Lib.cut (⟨l.toArray⟩ : ByteArray).data.toList (⟨#[32]⟩ : ByteArray).data.toList = cutX true false l := by
      have : (⟨l.toArray⟩ : ByteArray).data.toList = l := by simp
      rw [this]; exact cut_cutX l
    rw [e1] at hC
    have HC := Lib.hid hC
    clear h hl hC e1 hsz
    generalize cutX true false l = x at HW HC
    obtain ⟨x1, x2, x3⟩ := x
    go_enter Tryz.func134, Tryz.ntmps134
    go_wp2_with (first
      | (go_at_call 44; refine (sneed_ok _).mono ?_; rintro e w1 ⟨rfl, rfl⟩)
      | (go_at_call 39; refine HC.out.mono ?_; rintro e w2 ⟨rfl, hb2⟩; have HQ2 := Lib.hid (HQ.out.below hb2); have HM2 := Lib.hid (Moved.of_below (b := b) hb2); have p0 := HQ2.out.1; have p1 := HQ2.out.2.1; have p2 := HQ2.out.2.2.1; have p3 := HQ2.out.2.2.2))
    go_ret
    rw [HW.out]
    exact ⟨rfl, HQ2.out.set x2 x3, (HM2.out.trans (Moved.set _ _ _ _)).trans (Moved.set _ _ _ _)⟩
end Go.Proofs.YtkkildkleleppaaGreatDoor
namespace Go.Proofs.YtkkildkleleppaaGreatDoor
open Go.RowKit

theorem toList_arr (x : List UInt8) : (⟨x.toArray⟩ : ByteArray).data.toList = x := by simp
theorem size_arr (x : List UInt8) : (⟨x.toArray⟩ : ByteArray).size = x.length := by simp [ByteArray.size]
theorem AtoiL (x : List UInt8) (hx : x.length ≤ 100000000) (w : World) (hE : Env w) : Calls Tryz.prog 156 #[.string ⟨x.toArray⟩] w (AtoiEnd x w) := by
  have h := Atoi_any ⟨x.toArray⟩ (by rw [size_arr]; omega) w hE
  rwa [toList_arr] at h

set_option maxRecDepth 100000 in
set_option maxHeartbeats 2000000 in
theorem number_any (b : Nat) (s : St) (hl : s.1.length ≤ 100000000) (w : World) (h : IsQ w b s) (hE : EnvB b w) :
    Calls Tryz.prog 127 #[.pointer (some ⟨b, 0, none⟩)] w (QE b w ((numS s).map intV)) := by
  have hW := word_any b s hl w h hE
  cases hw : wordS s with
  | none =>
    have HN : Hid (numS s = none) := Lib.hid (by unfold numS; rw [hw])
    rw [hw] at hW
    have HW := Lib.hid hW
    clear hW hw h hl
    go_enter Tryz.func127, Tryz.ntmps127
    go_wp2_with (go_at_call 134; refine HW.out.mono ?_; rintro e w1 ⟨rfl, hm1⟩)
    refine ⟨rfl, ?_⟩
    rw [HN.out]
    exact ⟨rfl, hm1⟩
  | some x =>
    obtain ⟨x, s'⟩ := x
    have hx := (word_len hw).1
    have HS : Hid (numS s = (numO x).map fun n => (n, s')) := Lib.hid (by unfold numS; rw [hw])
    rw [hw] at hW
    have HW := Lib.hid hW
    have hA := fun w' hE => AtoiL x (by omega) w' hE
    clear hW hw h hl hx
    unfold AtoiEnd at hA
    cases ha : atoiO x with
    | none =>
      have HN : Hid (numO x = none) := Lib.hid (numO_none ha)
      simp only [ha] at hA
      have HA := Lib.hid hA
      clear ha hA
      go_enter Tryz.func127, Tryz.ntmps127
      go_wp2_with (first
        | (go_at_call 134; refine HW.out.mono ?_; rintro e w1 ⟨rfl, hq1, hm1⟩)
        | (go_at_call 156; refine (HA.out _ (hE.moved hm1).env).mono ?_; rintro e w2 ⟨n, t, p, rfl, hb2⟩)
        | (go_at_call 44; refine (sneed_no _).mono ?_; rintro e w3 ⟨rfl, rfl⟩))
      refine ⟨rfl, ?_⟩
      rw [HS.out, HN.out]
      exact ⟨rfl, hm1.trans (Moved.of_below hb2)⟩
    | some n =>
      have hf := atoiO_fit ha
      simp only [ha] at hA
      have HA := Lib.hid hA
      have HI := Lib.hid (fun w' hE => Itoa_any n hf.1 hf.2 w' hE)
      by_cases h0 : 0 ≤ n
      · by_cases h1 : n ≤ 999999999
        · by_cases h2 : Lib.itoa n = x
          · have HN : Hid (numO x = some n) := Lib.hid (numO_yes h0 h1 h2)
            rw [h2] at HI
            clear ha hA hf h2
            go_enter Tryz.func127, Tryz.ntmps127
            go_wp2_with (first
              | (go_at_call 134; refine HW.out.mono ?_; rintro e w1 ⟨rfl, hq1, hm1⟩)
              | (go_at_call 156; refine (HA.out _ (hE.moved hm1).env).mono ?_; rintro e w2 ⟨rfl, hb2⟩; have hm2 := hm1.trans (Moved.of_below hb2))
              | (go_at_call 111; refine (HI.out _ (hE.moved hm2).env).mono ?_; rintro e w3 ⟨rfl, hb3⟩)
              | (go_at_call 44; refine (sneed_ok _).mono ?_; rintro e w4 ⟨rfl, rfl⟩))
            go_ret
            rw [HS.out, HN.out]
            exact ⟨rfl, (hq1.below hb2).below hb3, hm2.trans (Moved.of_below hb3)⟩
          · have HN : Hid (numO x = none) := Lib.hid (numO_no ha (.inr (.inr h2)))
            have hne : ¬ (⟨(Lib.itoa n).toArray⟩ : ByteArray) = ⟨x.toArray⟩ := by
              intro e
              have := congrArg (fun s : ByteArray => s.data.toList) e
              exact h2 this
            clear ha hA hf h2
            generalize (⟨(Lib.itoa n).toArray⟩ : ByteArray) = q at HI hne
            have hne2 := str_ne hne
            rw [toList_data (⟨x.toArray⟩ : ByteArray), toList_arr] at hne2
            clear hne
            go_enter Tryz.func127, Tryz.ntmps127
            go_wp2_with (first
              | (go_at_call 134; refine HW.out.mono ?_; rintro e w1 ⟨rfl, hq1, hm1⟩)
              | (go_at_call 156; refine (HA.out _ (hE.moved hm1).env).mono ?_; rintro e w2 ⟨rfl, hb2⟩; have hm2 := hm1.trans (Moved.of_below hb2))
              | (go_at_call 111; refine (HI.out _ (hE.moved hm2).env).mono ?_; rintro e w3 ⟨rfl, hb3⟩)
              | (go_at_call 44; refine (sneed_no _).mono ?_; rintro e w4 ⟨rfl, rfl⟩))
            refine ⟨rfl, ?_⟩
            rw [HS.out, HN.out]
            exact ⟨rfl, hm2.trans (Moved.of_below hb3)⟩
        · have HN : Hid (numO x = none) := Lib.hid (numO_no ha (.inr (.inl (by omega))))
          clear ha hA hf HI
          go_enter Tryz.func127, Tryz.ntmps127
          go_wp2_with (first
            | (go_at_call 134; refine HW.out.mono ?_; rintro e w1 ⟨rfl, hq1, hm1⟩)
            | (go_at_call 156; refine (HA.out _ (hE.moved hm1).env).mono ?_; rintro e w2 ⟨rfl, hb2⟩)
            | (go_at_call 44; refine (sneed_no _).mono ?_; rintro e w4 ⟨rfl, rfl⟩))
          refine ⟨rfl, ?_⟩
          rw [HS.out, HN.out]
          exact ⟨rfl, hm1.trans (Moved.of_below hb2)⟩
      · have HN : Hid (numO x = none) := Lib.hid (numO_no ha (.inl (by omega)))
        clear ha hA hf HI
        go_enter Tryz.func127, Tryz.ntmps127
        go_wp2_with (first
          | (go_at_call 134; refine HW.out.mono ?_; rintro e w1 ⟨rfl, hq1, hm1⟩)
          | (go_at_call 156; refine (HA.out _ (hE.moved hm1).env).mono ?_; rintro e w2 ⟨rfl, hb2⟩)
          | (go_at_call 44; refine (sneed_no _).mono ?_; rintro e w4 ⟨rfl, rfl⟩))
        refine ⟨rfl, ?_⟩
        rw [HS.out, HN.out]
        exact ⟨rfl, hm1.trans (Moved.of_below hb2)⟩

set_option maxHeartbeats 400000 in
theorem all_any (b : Nat) (s : St) (w : World) (h : IsQ w b s) :
    Calls Tryz.prog 86 #[.pointer (some ⟨b, 0, none⟩)] w (QE b w ((allS s).map strV)) := by
  obtain ⟨l, m⟩ := s
  have q0 := h.1
  have q1 := h.2.1
  have q2 := h.2.2.1
  have q3 := h.2.2.2
  have HQ := Lib.hid h
  simp only at q0 q1
  cases m with
  | false =>
    have HW : Hid (allS (l, false) = none) := Lib.hid rfl
    clear h
    go_enter Tryz.func86, Tryz.ntmps86
    go_wp2_with (go_at_call 44; refine (sneed_no _).mono ?_; rintro e w1 ⟨rfl, rfl⟩)
    refine ⟨rfl, ?_⟩
    rw [HW.out]
    exact ⟨rfl, Moved.refl _ _⟩
  | true =>
    have HW : Hid (allS (l, true) = some (l, (l, false))) := Lib.hid rfl
    clear h
    go_enter Tryz.func86, Tryz.ntmps86
    go_wp2_with (go_at_call 44; refine (sneed_ok _).mono ?_; rintro e w1 ⟨rfl, rfl⟩)
    go_ret
    rw [HW.out]
    exact ⟨rfl, HQ.out.set1 false, Moved.set _ _ _ _⟩
end Go.Proofs.YtkkildkleleppaaGreatDoor
