/- The reader's value. The plain part: what the reader of dumps reads at a place. -/
import Derived.Test.YtkkildkleleppaaGreatDoorJ10
import Derived.Deep.RegionHeld3
import Derived.Deep.CutBlock
import Derived.Deep.DeepCutAuto
namespace Go.Proofs.YtkkildkleleppaaGreatDoor
open Go.RowKit

def plainB (c : UInt8) : Bool := decide (c ≠ 44) && decide (c ≠ 10)
/-- How many bytes stand ahead of a comma, a line's end or the text's end. -/
def stopL (l : List UInt8) : Nat := (l.takeWhile plainB).length
theorem stopL_nil : stopL [] = 0 := rfl
theorem stopL_stop (c : UInt8) (l : List UInt8) (h : c = 44 ∨ c = 10) : stopL (c :: l) = 0 := by
  rcases h with rfl | rfl <;> rfl
theorem stopL_go (c : UInt8) (l : List UInt8) (h : c ≠ 44) (h2 : c ≠ 10) : stopL (c :: l) = stopL l + 1 := by
  simp [stopL, plainB, h, h2]

def headX (l : List UInt8) (k : Nat) : Nat := if nx l k 120 then k + 1 else k
/-- Where a literal that begins with its quote, or plainly, at place k is over. -/
def litEnd (l : List UInt8) (k : Nat) : Option Nat := if nx l k 39 then (quotedS l k).map (·.2) else some (k + stopL (l.drop k))
def valueV (l : List UInt8) (k : Nat) : Option (V × Nat) :=
  match litEnd l (headX l k) with
  | none => none
  | some k2 => (readV (pieceL l k k2)).map fun v => (v, k2)
def valueS (l : List UInt8) (k : Nat) : Option (Value × Nat) := (valueV l k).map fun x => (x.1.val, x.2)

theorem Moved.alloc {b : Nat} {w w' : World} (h : Moved b w w') (o : Obj) : Moved b w (w'.alloc o) := h.trans (Moved.of_below ((Below.refl _ _).alloc (Nat.le_refl _) o))
theorem Moved.setO {b : Nat} {w w' : World} (h : Moved b w w') {p : Addr} (hp : w.heap.size ≤ p.block) (v : Value) : Moved b w (w'.setCell p v) :=
  ⟨h.os, h.tape, h.output, by have := h.size; simpa [World.setCell] using this, fun k hk hne => (Below.heap_setCell _ _ _ _ (by omega)).trans (h.block k hk hne)⟩

theorem IsR.alloc {w : World} {b k : Nat} {s : ByteArray} (h : IsR w b s k) (o : Obj) : IsR (w.alloc o) b s k := h.below ((Below.refl _ _).alloc (Nat.le_refl _) o)
theorem IsR.setO {w : World} {b k : Nat} {s : ByteArray} (h : IsR w b s k) {p : Addr} (hp : p.block ≠ b) (v : Value) : IsR (w.setCell p v) b s k := by
  have hk : (w.setCell p v).heap[b]? = w.heap[b]? := Below.heap_setCell _ _ _ _ (fun e => hp e.symm)
  refine ⟨?_, ?_, ?_⟩
  · have := h.1; unfold World.cell? at *; rw [hk]; exact this
  · have := h.2.1; unfold World.cell? at *; rw [hk]; exact this
  · have := h.2.2; exact (World.frozen?_of_block (w := w) (w' := w.setCell p v) (a := ⟨b, 1, none⟩) hk).trans this
/-- The three cells of a value's box, behind methods of the reader. -/
theorem boxM3 {b : Nat} {w w' : World} {a c d : Value} {T : TypeId} (hm : Moved b (w.alloc (.cells #[a, c, d] T)) w') (hb : b < w.heap.size) :
    w'.cell? ⟨w.heap.size, 0, none⟩ = some a ∧ w'.cell? ⟨w.heap.size, 1, none⟩ = some c ∧ w'.cell? ⟨w.heap.size, 2, none⟩ = some d ∧
    w'.frozen? ⟨w.heap.size, 0, none⟩ = false ∧ w'.frozen? ⟨w.heap.size, 1, none⟩ = false ∧ w'.frozen? ⟨w.heap.size, 2, none⟩ = false := by
  have hk := hm.block w.heap.size (by simp) (by intro e; injection e with e; omega)
  have hc : ∀ i, w'.cell? ⟨w.heap.size, i, none⟩ = #[a, c, d][i]? := by
    intro i
    have := cell_of_row (w.alloc (.cells #[a, c, d] T)) w.heap.size i #[a, c, d] T (0, 0) (heap_alloc_new w _)
    rw [← this]
    unfold World.cell?; rw [hk]
  have hf : ∀ i, w'.frozen? ⟨w.heap.size, i, none⟩ = false := fun i =>
    (World.frozen?_of_block (w := w.alloc (.cells #[a, c, d] T)) (w' := w') (a := ⟨w.heap.size, i, none⟩) hk).trans (frozen_new w _ T i)
  exact ⟨hc 0, hc 1, hc 2, hf 0, hf 1, hf 2⟩
theorem moved_box {b : Nat} {w w' : World} {o : Obj} (h : Moved b (w.alloc o) w') : Moved b w w' := (Moved.of_below ((Below.refl _ _).alloc (Nat.le_refl _) o)).trans h

theorem piece_extract (s : ByteArray) (i k : Nat) : (s.extract i k).data.toList = pieceL s.data.toList i k := by rw [extract_list]; rfl

theorem below_moved {B b : Nat} {w0 w w' : World} (h : Below B w0 w) (hm : Moved b w w') (hB : B ≤ b) (hs : B ≤ w.heap.size) : Below B w0 w' :=
  h.trans ⟨hm.os, hm.tape, hm.output, hm.size, fun k hk => hm.block k (by omega) (by intro e; injection e with e; omega)⟩
/-- What the library reads lies ahead of block b. -/
def EnvB (b : Nat) (w : World) : Prop := ∃ w0, Env w0 ∧ Below w0.heap.size w0 w ∧ w0.heap.size ≤ b
theorem EnvB.env {b : Nat} {w : World} (h : EnvB b w) : Env w := by
  obtain ⟨w0, h0, hb, _⟩ := h
  exact h0.below hb
theorem EnvB.moved {b : Nat} {w w' : World} (h : EnvB b w) (hm : Moved b w w') : EnvB b w' := by
  obtain ⟨w0, h0, hb, hle⟩ := h
  exact ⟨w0, h0, below_moved hb hm hle hb.size, hle⟩

theorem litEnd_plain {l : List UInt8} {k : Nat} (h : nx l k 39 = false) : litEnd l k = some (k + stopL (l.drop k)) := by simp [litEnd, h]
theorem litEnd_quoted {l : List UInt8} {k : Nat} (h : nx l k 39 = true) : litEnd l k = (quotedS l k).map (·.2) := by simp [litEnd, h]
theorem valueS_none {l : List UInt8} {k : Nat} (h : litEnd l (headX l k) = none) : valueS l k = none := by simp [valueS, valueV, h]
theorem valueS_some {l : List UInt8} {k : Nat} (j : Nat) (h : litEnd l (headX l k) = some j) : valueS l k = (readV (pieceL l k j)).map fun v => (v.val, j) := by
  simp only [valueS, valueV, h]
  cases readV (pieceL l k j) <;> rfl
theorem qBody_len : ∀ (n : Nat) (l : List UInt8), l.length ≤ n → ∀ y, qBody l = some y → 1 ≤ y.2 ∧ y.2 ≤ l.length
  | _, [], _, y, h => by cases h
  | _, [c], _, y, h => by
    simp only [qBody] at h
    split at h
    · cases h; simp
    · cases h
  | 0, c :: d :: r, hn, _, _ => by simp at hn
  | n + 1, c :: d :: r, hn, y, h => by
    simp only [List.length_cons] at hn ⊢
    simp only [qBody] at h
    split at h
    · split at h
      · cases hq : qBody r with
        | none => rw [hq] at h; cases h
        | some z =>
          have := qBody_len n r (by omega) z hq
          rw [hq] at h; cases h; simp only; omega
      · cases h; simp only; omega
    · cases hq : qBody (d :: r) with
      | none => rw [hq] at h; cases h
      | some z =>
        have := qBody_len n (d :: r) (by simp; omega) z hq
        simp only [List.length_cons] at this
        rw [hq] at h; cases h; simp only; omega
theorem quotedS_le {l : List UInt8} {k : Nat} {v : Value} {j : Nat} (h : quotedS l k = some (v, j)) : k ≤ j ∧ j ≤ l.length := by
  unfold quotedS at h
  split at h
  · cases hq : qBody (l.drop (k + 1)) with
    | none => rw [hq] at h; cases h
    | some y =>
      have := qBody_len _ _ (Nat.le_refl _) y hq
      rw [hq] at h
      simp only [Option.map_some, Option.some.injEq, Prod.mk.injEq] at h
      simp only [List.length_drop] at this
      omega
  · cases h
theorem IsR.set3 {w : World} {b n k : Nat} {s : ByteArray} (h : IsR w b s k) (hn : n ≠ b) (x y z : Value) : IsR (((w.setCell ⟨n, 0, none⟩ x).setCell ⟨n, 1, none⟩ y).setCell ⟨n, 2, none⟩ z) b s k :=
  ((h.setO (p := ⟨n, 0, none⟩) hn _).setO (p := ⟨n, 1, none⟩) hn _).setO (p := ⟨n, 2, none⟩) hn _
theorem Moved.set3 {w w' : World} {b n : Nat} (h : Moved b w w') (hn : w.heap.size ≤ n) (x y z : Value) : Moved b w (((w'.setCell ⟨n, 0, none⟩ x).setCell ⟨n, 1, none⟩ y).setCell ⟨n, 2, none⟩ z) :=
  ((h.setO (p := ⟨n, 0, none⟩) hn _).setO (p := ⟨n, 1, none⟩) hn _).setO (p := ⟨n, 2, none⟩) hn _
theorem quotedS_str {l : List UInt8} {k : Nat} {v : Value} {j : Nat} (h : quotedS l k = some (v, j)) : ∃ x : List UInt8, v = .string ⟨x.toArray⟩ := by
  unfold quotedS at h
  split at h
  · cases hq : qBody (l.drop (k + 1)) with
    | none => rw [hq] at h; cases h
    | some y => rw [hq] at h; simp at h; exact ⟨y.1, h.1.symm⟩
  · cases h


set_option maxRecDepth 100000 in
set_option maxHeartbeats 2000000 in
theorem value_any (b : Nat) (s : ByteArray) (k : Nat) (hk : s.size ≤ 100000000) (w : World) (h : IsR w b s k) (hks : k ≤ s.size) (hE : EnvB b w) :
    Calls Tryz.prog 76 #[.pointer (some ⟨b, 0, none⟩)] w (RQ b s w (valueS s.data.toList k)) := by
  have hbl := h.lt
  have N1 := fun w' h => next_any b s k 120 w' h
  have HR0 := Lib.hid (h.alloc (.cells #[.int .i64 0, .int .i64 0, .string ⟨#[]⟩] 80))
  have q0 := HR0.out.1
  have q1 := HR0.out.2.1
  have q2 := HR0.out.2.2
  clear h
  have hk1 : k ≤ headX s.data.toList k ∧ headX s.data.toList k ≤ s.size := by
    unfold headX
    cases hx : nx s.data.toList k 120 with
    | true => have := nx_lt hx; simp; omega
    | false => simp; omega
  have HK1 : Hid (headX s.data.toList k = if nx s.data.toList k 120 then k + 1 else k) := Lib.hid rfl
  have HVN := Lib.hid (@valueS_none s.data.toList k)
  have HVS := Lib.hid (@valueS_some s.data.toList k)
  generalize headX s.data.toList k = k1 at hk1 HK1 HVN HVS
  have N2 := fun w' h => next_any b s k1 39 w' h
  go_enter Tryz.func76, Tryz.ntmps76
  go_upto_if 11 with (go_at_call 75; refine (N1 _ HR0.out).mono ?_; rintro e w1 ⟨rfl, hb1⟩; have HR1 := Lib.hid (HR0.out.below hb1); have HM1 := Lib.hid (Moved.of_below (b := b) hb1); have p0 := HR1.out.1; have p1 := HR1.out.2.1; have p2 := HR1.out.2.2)
  go_cut [] (fun wx => IsR wx b s k1 ∧ Moved b (w.alloc (.cells #[.int .i64 0, .int .i64 0, .string ⟨#[]⟩] 80)) wx)
  case first =>
    cases hx : nx s.data.toList k 120 with
    | true =>
      have HK : Hid (k1 = k + 1) := Lib.hid (by rw [HK1.out, hx]; rfl)
      clear hx
      go_wp2_with fail
      go_meet
      case rel => rw [HK.out]; exact ⟨HR1.out.set (k + 1), HM1.out.trans (Moved.set _ _ _ _)⟩
    | false =>
      have HK : Hid (k1 = k) := Lib.hid (by rw [HK1.out, hx]; rfl)
      clear hx
      go_wp2_with fail
      go_meet
      case rel => rw [HK.out]; exact ⟨HR1.out, HM1.out⟩
  case rest =>
    obtain ⟨hr, hm⟩ := hcut
    have HRc := Lib.hid hr
    have HMc := Lib.hid hm
    clear hr hm p0 p1 p2 q0 q1 q2
    go_upto_if 20 with (go_at_call 75; refine (N2 _ HRc.out).mono ?_; rintro e w2 ⟨rfl, hb2⟩; have HR2 := Lib.hid (HRc.out.below hb2); have HM2 := Lib.hid (HMc.out.trans (Moved.of_below (b := b) hb2)))
    go_cut [] (fun wx => ∃ j, litEnd s.data.toList k1 = some j ∧ k ≤ j ∧ j ≤ s.size ∧ IsR wx b s j ∧ Moved b (w.alloc (.cells #[.int .i64 0, .int .i64 0, .string ⟨#[]⟩] 80)) wx)
    case first =>
      cases hx : nx s.data.toList k1 39 with
      | true =>
        have HL := Lib.hid (litEnd_quoted hx)
        have HQ := Lib.hid (quoted_any b s k1 hk)
        clear hx
        cases hqs : quotedS s.data.toList k1 with
        | some y =>
          obtain ⟨v, j⟩ := y
          have hj := quotedS_le hqs
          obtain ⟨x, rfl⟩ := quotedS_str hqs
          have HE : Hid (litEnd s.data.toList k1 = some j) := Lib.hid (by rw [HL.out, hqs]; rfl)
          rw [hqs] at HQ
          clear hqs
          go_wp2_with (go_at_call 74; refine (HQ.out _ HR2.out hk1.2).mono ?_; rintro e w3 ⟨rfl, hr3, hm3⟩)
          go_meet
          case rel => exact ⟨j, HE.out, by omega, by simpa using hj.2, hr3, HM2.out.trans hm3⟩
        | none =>
          have HE : Hid (litEnd s.data.toList k1 = none) := Lib.hid (by rw [HL.out, hqs]; rfl)
          rw [hqs] at HQ
          clear hqs
          go_wp2_with (go_at_call 74; refine (HQ.out _ HR2.out hk1.2).mono ?_; rintro e w3 ⟨rfl, hm3⟩)
          refine ⟨rfl, ?_⟩
          rw [HVN.out HE.out]
          exact ⟨rfl, moved_box (HM2.out.trans hm3)⟩
      | false =>
        have HL := Lib.hid (litEnd_plain hx)
        clear hx
        go_wp2_with fail
        go_loopw [] (fun wr => ∃ j : Nat, k1 ≤ j ∧ j ≤ s.size ∧ IsR wr b s j ∧ Moved b (w.alloc (.cells #[.int .i64 0, .int .i64 0, .string ⟨#[]⟩] 80)) wr ∧
            Hid (stopL (s.data.toList.drop k1) = j - k1 + stopL (s.data.toList.drop j))) (fun wr => s.size - (match wr.cell? ⟨b, 1, none⟩ with | some v => (intOf v).toNat | none => 0))
        case atStart => exact ⟨k1, Nat.le_refl _, hk1.2, HR2.out, HM2.out, Lib.hid (by omega)⟩
        case round =>
          obtain ⟨j, hkj, hjs, hr, hm, HX⟩ := hrel
          have q0 := hr.1
          have q1 := hr.2.1
          have q2 := hr.2.2
          have HR := Lib.hid hr
          have HM := Lib.hid hm
          clear hr hm
          by_cases hlt : j < s.size
          · have HD := Lib.hid (drop_one s j hlt)
            have hi0 : (0 : Int) ≤ (j : Int) := Int.natCast_nonneg _
            have hi1 : (j : Int) < (s.size : Int) := by omega
            by_cases h44 : s[j] = 44
            · have ha : ((s[j].toNat : Int) == 44) = true := u8_eq h44
              have hb : ((s[j].toNat : Int) != 44) = false := by rw [bne, ha]; rfl
              have HS : Hid (litEnd s.data.toList k1 = some j) := Lib.hid (by rw [HL.out, HX.out, HD.out, stopL_stop _ _ (.inl h44)]; congr 1; omega)
              clear h44
              go_wp2_with fail
              go_quiet (fail)
              go_wp2_with fail
              go_meet
              case rel => exact ⟨j, HS.out, by omega, by omega, HR.out.drewN _, HM.out.drewN _⟩
            · by_cases h10 : s[j] = 10
              · have ha : ((s[j].toNat : Int) == 44) = false := u8_ne h44
                have hb : ((s[j].toNat : Int) != 44) = true := by rw [bne, ha]; rfl
                have ha2 : ((s[j].toNat : Int) == 10) = true := u8_eq h10
                have hb2 : ((s[j].toNat : Int) != 10) = false := by rw [bne, ha2]; rfl
                have HS : Hid (litEnd s.data.toList k1 = some j) := Lib.hid (by rw [HL.out, HX.out, HD.out, stopL_stop _ _ (.inr h10)]; congr 1; omega)
                clear h44 h10
                go_wp2_with fail
                go_quiet (fail)
                go_wp2_with fail
                go_meet
                case rel => exact ⟨j, HS.out, by omega, by omega, HR.out.drewN _, HM.out.drewN _⟩
              · have ha : ((s[j].toNat : Int) == 44) = false := u8_ne h44
                have hb : ((s[j].toNat : Int) != 44) = true := by rw [bne, ha]; rfl
                have ha2 : ((s[j].toNat : Int) == 10) = false := u8_ne h10
                have hb2 : ((s[j].toNat : Int) != 10) = true := by rw [bne, ha2]; rfl
                have HS : Hid (stopL (s.data.toList.drop k1) = j + 1 - k1 + stopL (s.data.toList.drop (j + 1))) := Lib.hid (by rw [HX.out, HD.out, stopL_go _ _ h44 h10]; omega)
                clear h44 h10
                go_wp2_with fail
                go_quiet (fail)
                go_wp2_with fail
                go_roundw
                case rel => 
                  exact ⟨j + 1, by omega, by omega, (HR.out.drewN _).set (j + 1), (HM.out.drewN _).trans (Moved.set _ _ _ _), HS⟩
                case measure =>
                  have h1 : ∀ n, ((wr.drewN n).setCell ⟨b, 1, none⟩ (.int .i64 ((j : Int) + 1))).cell? ⟨b, 1, none⟩ = some (.int .i64 ((j : Int) + 1)) := fun n => ((HR.out.drewN n).set (j + 1)).2.1
                  rw [h1, q1]; simp [intOf]; omega
          · have hi : decide ((j : Int) < (s.size : Int)) = false := by simp; omega
            have HS : Hid (litEnd s.data.toList k1 = some j) := Lib.hid (by
              rw [HL.out, HX.out, List.drop_of_length_le (by simp; omega), stopL_nil]; congr 1; omega)
            go_wp2_with fail
            go_quiet (fail)
            go_wp2_with fail
            go_meet
            case rel => exact ⟨j, HS.out, by omega, by omega, HR.out.drewN _, HM.out.drewN _⟩
    case rest =>
      obtain ⟨j, hle, hkj, hjs, hr, hm⟩ := hcut
      have HVx := Lib.hid (HVS.out j hle)
      have HR := Lib.hid hr
      have HM := Lib.hid hm
      have HEn := Lib.hid (hE.moved (moved_box hm))
      have q0 := hr.1
      have q1 := hr.2.1
      have q2 := hr.2.2
      clear hle hr hm
      have hk0 : (0 : Int) ≤ (k : Int) := Int.natCast_nonneg _
      have hk1' : (k : Int) ≤ (j : Int) := by omega
      have hk2 : (j : Int) ≤ (s.size : Int) := by omega
      have hbw : wc.heap.size ≠ b := by have := HR.out.lt; omega
      have hbw0 : w.heap.size ≠ b := by omega
      have hbw1 : ¬ w.heap.size = wc.heap.size := by have := HM.out.size; simp at this; omega
      have hww : w.heap.size + 1 ≤ wc.heap.size := by have := HM.out.size; simpa using this
      have hRd := fun w' h => Read_any (s.extract k j) (by rw [ByteArray.size_extract]; omega) (w := w') h
      unfold ReadEnd at hRd
      simp only [piece_extract] at hRd
      cases hv : readV (pieceL s.data.toList k j) with
      | some v =>
        simp only [hv, V.val] at hRd
        have HV : Hid (valueS s.data.toList k = some (v.val, j)) := Lib.hid (by rw [HVx.out, hv]; rfl)
        have HRd := Lib.hid hRd
        clear hRd hv
        go_wp2_with fail
        go_region_held3 (fun w' => w'.cell? ⟨b, 0, none⟩ = some (.string s) ∧ w'.cell? ⟨b, 1, none⟩ = some (.int .i64 j))
          (first | exact ⟨HR3.out.1, HR3.out.2.1⟩ | exact ⟨(HR3.out.alloc _).1, (HR3.out.alloc _).2.1⟩ | exact ⟨(((HR3.out.setO (p := ⟨wc.heap.size, 0, none⟩) hbw _).setO (p := ⟨wc.heap.size, 1, none⟩) hbw _).setO (p := ⟨wc.heap.size, 2, none⟩) hbw _).1, (((HR3.out.setO (p := ⟨wc.heap.size, 0, none⟩) hbw _).setO (p := ⟨wc.heap.size, 1, none⟩) hbw _).setO (p := ⟨wc.heap.size, 2, none⟩) hbw _).2.1⟩ | go_keep)
          (first
            | (go_at_call 122; refine (HRd.out _ (HEn.out.moved (Moved.refl _ _).drew).env).mono ?_; rintro e w3 ⟨rfl, hb3⟩; have HR3 := Lib.hid ((HR.out.drewN 1).below hb3); have HM3 := Lib.hid ((HM.out.drew).trans (Moved.of_below hb3)); have c0 := fun o => (boxM3 (HM3.out.alloc o) hbl).1; have c1 := fun o => (boxM3 (HM3.out.alloc o) hbl).2.1; have c2 := fun o => (boxM3 (HM3.out.alloc o) hbl).2.2.1; have f0 := fun o => (boxM3 (HM3.out.alloc o) hbl).2.2.2.1; have f1 := fun o => (boxM3 (HM3.out.alloc o) hbl).2.2.2.2.1; have f2 := fun o => (boxM3 (HM3.out.alloc o) hbl).2.2.2.2.2)
            | (go_at_call 122; refine (HRd.out _ (HEn.out.moved ((Moved.refl _ _).drew.alloc _)).env).mono ?_; rintro e w3 ⟨rfl, hb3⟩; have HR3 := Lib.hid (((HR.out.drewN 1).alloc _).below hb3); have HM3 := Lib.hid ((HM.out.drew.alloc _).trans (Moved.of_below hb3)); obtain ⟨c0, c1, c2, f0, f1, f2⟩ := boxM3 HM3.out hbl; have dd : w3.cell? ⟨wc.heap.size, 0, none⟩ = some (.int .i64 0) ∧ w3.cell? ⟨wc.heap.size, 1, none⟩ = some (.int .i64 0) ∧ w3.cell? ⟨wc.heap.size, 2, none⟩ = some (.string ⟨#[]⟩) ∧ w3.frozen? ⟨wc.heap.size, 0, none⟩ = false ∧ w3.frozen? ⟨wc.heap.size, 1, none⟩ = false ∧ w3.frozen? ⟨wc.heap.size, 2, none⟩ = false := box3 (w := wc.drew) (hb3.mono (by simp)); obtain ⟨d0, d1, d2, e0, e1, e2⟩ := dd))
        · go_wp2_with (go_at_call 78; refine (need_ok _).mono ?_; rintro e w4 ⟨rfl, rfl⟩)
          refine bodyPost_ret (by simp [results, Tryz.results76, go_sem, c0, c1, c2]; try rfl) rfl ?_
          rw [HV.out]
          exact ⟨rfl, (HR3.out.alloc _).set3 hbw0 _ _ _, (moved_box (HM3.out.alloc _)).set3 (Nat.le_refl _) _ _ _⟩
        · go_wp2_with (go_at_call 78; refine (need_ok _).mono ?_; rintro e w4 ⟨rfl, rfl⟩)
          refine bodyPost_ret (by simp [results, Tryz.results76, go_sem, c0, c1, c2]; try rfl) rfl ?_
          rw [HV.out]
          exact ⟨rfl, (HR3.out.set3 hbw _ _ _).set3 hbw0 _ _ _, ((moved_box HM3.out).set3 (by omega) _ _ _).set3 (Nat.le_refl _) _ _ _⟩
      | none =>
        simp only [hv, V.val] at hRd
        have HV : Hid (valueS s.data.toList k = none) := Lib.hid (by rw [HVx.out, hv]; rfl)
        have HRd := Lib.hid hRd
        clear hRd hv
        go_wp2_with fail
        go_region_held3 (fun w' => w'.cell? ⟨b, 0, none⟩ = some (.string s) ∧ w'.cell? ⟨b, 1, none⟩ = some (.int .i64 j))
          (first | exact ⟨HR3.out.1, HR3.out.2.1⟩ | exact ⟨(HR3.out.alloc _).1, (HR3.out.alloc _).2.1⟩ | exact ⟨(((HR3.out.setO (p := ⟨wc.heap.size, 0, none⟩) hbw _).setO (p := ⟨wc.heap.size, 1, none⟩) hbw _).setO (p := ⟨wc.heap.size, 2, none⟩) hbw _).1, (((HR3.out.setO (p := ⟨wc.heap.size, 0, none⟩) hbw _).setO (p := ⟨wc.heap.size, 1, none⟩) hbw _).setO (p := ⟨wc.heap.size, 2, none⟩) hbw _).2.1⟩ | go_keep)
          (first
            | (go_at_call 122; refine (HRd.out _ (HEn.out.moved (Moved.refl _ _).drew).env).mono ?_; rintro e w3 ⟨n, hn, rfl, hb3⟩; have HR3 := Lib.hid ((HR.out.drewN 1).below hb3); have HM3 := Lib.hid ((HM.out.drew).trans (Moved.of_below hb3)); have c0 := fun o => (boxM3 (HM3.out.alloc o) hbl).1; have c1 := fun o => (boxM3 (HM3.out.alloc o) hbl).2.1; have c2 := fun o => (boxM3 (HM3.out.alloc o) hbl).2.2.1; have f0 := fun o => (boxM3 (HM3.out.alloc o) hbl).2.2.2.1; have f1 := fun o => (boxM3 (HM3.out.alloc o) hbl).2.2.2.2.1; have f2 := fun o => (boxM3 (HM3.out.alloc o) hbl).2.2.2.2.2)
            | (go_at_call 122; refine (HRd.out _ (HEn.out.moved ((Moved.refl _ _).drew.alloc _)).env).mono ?_; rintro e w3 ⟨n, hn, rfl, hb3⟩; have HR3 := Lib.hid (((HR.out.drewN 1).alloc _).below hb3); have HM3 := Lib.hid ((HM.out.drew.alloc _).trans (Moved.of_below hb3)); obtain ⟨c0, c1, c2, f0, f1, f2⟩ := boxM3 HM3.out hbl; have dd : w3.cell? ⟨wc.heap.size, 0, none⟩ = some (.int .i64 0) ∧ w3.cell? ⟨wc.heap.size, 1, none⟩ = some (.int .i64 0) ∧ w3.cell? ⟨wc.heap.size, 2, none⟩ = some (.string ⟨#[]⟩) ∧ w3.frozen? ⟨wc.heap.size, 0, none⟩ = false ∧ w3.frozen? ⟨wc.heap.size, 1, none⟩ = false ∧ w3.frozen? ⟨wc.heap.size, 2, none⟩ = false := box3 (w := wc.drew) (hb3.mono (by simp)); obtain ⟨d0, d1, d2, e0, e1, e2⟩ := dd))
        · go_wp2_with (go_at_call 78; refine (need_no _).mono ?_; rintro e w4 ⟨rfl, rfl⟩)
          refine ⟨rfl, ?_⟩
          rw [HV.out]
          exact ⟨rfl, moved_box (HM3.out.alloc _)⟩
        · go_wp2_with (go_at_call 78; refine (need_no _).mono ?_; rintro e w4 ⟨rfl, rfl⟩)
          refine ⟨rfl, ?_⟩
          rw [HV.out]
          exact ⟨rfl, (moved_box HM3.out).set3 (by omega) _ _ _⟩
end Go.Proofs.YtkkildkleleppaaGreatDoor
namespace Go.Proofs.YtkkildkleleppaaGreatDoor

def qtd (l : List UInt8) (k : Nat) : Option (List UInt8 × Nat) := if nx l k 39 then (qBody (l.drop (k + 1))).map (fun x => (x.1, k + 1 + x.2)) else none
theorem quotedS_qtd (l : List UInt8) (k : Nat) : quotedS l k = (qtd l k).map fun x => (.string ⟨x.1.toArray⟩, x.2) := by
  unfold quotedS qtd
  split
  · cases qBody (l.drop (k + 1)) <;> rfl
  · rfl
def paramsS : Nat → List UInt8 → Nat → Option (List V × Nat)
  | 0, _, _ => none
  | n + 1, l, k => if nx l k 44 then (match valueV l (k + 1) with | none => none | some x => (paramsS n l x.2).map fun y => (x.1 :: y.1, y.2)) else some ([], k)
def partS (l : List UInt8) (k : Nat) : Option (T × Nat) :=
  match qtd l k with
  | none => none
  | some x => match paramsS (l.length + 1) l x.2 with
    | none => none
    | some y => if nx l y.2 10 = true ∧ (T.mk ⟨x.1.toArray⟩ y.1).may = true then some (⟨⟨x.1.toArray⟩, y.1⟩, y.2 + 1) else none

theorem paramsS_end {n : Nat} {l : List UInt8} {k : Nat} (h : nx l k 44 = false) : paramsS (n + 1) l k = some ([], k) := by simp [paramsS, h]
theorem paramsS_none {n : Nat} {l : List UInt8} {k : Nat} (h : nx l k 44 = true) (h2 : valueV l (k + 1) = none) : paramsS (n + 1) l k = none := by simp [paramsS, h, h2]
theorem paramsS_some {n : Nat} {l : List UInt8} {k j : Nat} {v : V} (h : nx l k 44 = true) (h2 : valueV l (k + 1) = some (v, j)) : paramsS (n + 1) l k = (paramsS n l j).map fun y => (v :: y.1, y.2) := by simp [paramsS, h, h2]

theorem litEnd_le {l : List UInt8} {k j : Nat} (hk : k ≤ l.length) (h : litEnd l k = some j) : k ≤ j ∧ j ≤ l.length := by
  unfold litEnd at h
  split at h
  · cases hq : quotedS l k with
    | none => rw [hq] at h; cases h
    | some y =>
      rw [hq] at h
      cases h
      exact quotedS_le (v := y.1) (by rw [hq])
  · cases h
    have : stopL (l.drop k) ≤ (l.drop k).length := by unfold stopL; exact (List.takeWhile_sublist _).length_le
    rw [List.length_drop] at this
    omega
theorem valueV_le {l : List UInt8} {k j : Nat} {v : V} (hk : k ≤ l.length) (h : valueV l k = some (v, j)) : k ≤ j ∧ j ≤ l.length := by
  unfold valueV at h
  have hx : k ≤ headX l k ∧ headX l k ≤ l.length := by
    unfold headX
    split
    · rename_i hn
      have : k < l.length := by
        unfold nx at hn
        rcases Nat.lt_or_ge k l.length with h1 | h1
        · exact h1
        · rw [List.getElem?_eq_none h1] at hn; cases hn
      omega
    · omega
  split at h
  · cases h
  · rename_i k2 hl
    have := litEnd_le hx.2 hl
    cases hr : readV (pieceL l k k2) with
    | none => rw [hr] at h; cases h
    | some u => rw [hr] at h; cases h; omega

theorem qtd_le {l : List UInt8} {k j : Nat} {x : List UInt8} (h : qtd l k = some (x, j)) : k ≤ j ∧ j ≤ l.length :=
  quotedS_le (v := .string ⟨x.toArray⟩) (by rw [quotedS_qtd, h]; rfl)
end Go.Proofs.YtkkildkleleppaaGreatDoor
