/- The reader of dumps: need, next, must. The reader's quoted. -/
import Derived.Test.YtkkildkleleppaaGreatDoorJ09
import Derived.StillTailTactics
namespace Go.Proofs.YtkkildkleleppaaGreatDoor
open Go.RowKit

/-- The reader lies in block b: text s, place k. -/
def IsR (w : World) (b : Nat) (s : ByteArray) (k : Nat) : Prop :=
  w.cell? ⟨b, 0, none⟩ = some (.string s) ∧ w.cell? ⟨b, 1, none⟩ = some (.int .i64 k) ∧ w.frozen? ⟨b, 1, none⟩ = false
/-- Only block b has turned. -/
def Moved (b : Nat) (w w' : World) : Prop := w.grownBy w' (some b)

theorem IsR.lt {w : World} {b : Nat} {s : ByteArray} {k : Nat} (h : IsR w b s k) : b < w.heap.size := lt_of_cell h.1
theorem IsR.below {w w' : World} {b : Nat} {s : ByteArray} {k : Nat} (h : IsR w b s k) (hb : Below w.heap.size w w') : IsR w' b s k :=
  ⟨(hb.cell h.lt).trans h.1, (hb.cell h.lt).trans h.2.1, (hb.frozen h.lt).trans h.2.2⟩
theorem IsR.set {w : World} {b : Nat} {s : ByteArray} {k : Nat} (h : IsR w b s k) (k' : Nat) : IsR (w.setCell ⟨b, 1, none⟩ (.int .i64 k')) b s k' := by
  obtain ⟨h0, h1, h2⟩ := h
  refine ⟨?_, ?_, ?_⟩ <;> simp [go_sem, h0, h1, h2]
theorem Moved.refl (b : Nat) (w : World) : Moved b w w := ⟨rfl, rfl, rfl, Nat.le_refl _, fun _ _ _ => rfl⟩
theorem Moved.of_below {b : Nat} {w w' : World} (hb : Below w.heap.size w w') : Moved b w w' := ⟨hb.os, hb.tape, hb.output, hb.size, fun k hk _ => hb.block k hk⟩
theorem Moved.trans {b : Nat} {w w' w'' : World} (h : Moved b w w') (h' : Moved b w' w'') : Moved b w w'' :=
  ⟨h'.os.trans h.os, h'.tape.trans h.tape, h'.output.trans h.output, Nat.le_trans h.size h'.size, fun k hk hne => (h'.block k (Nat.lt_of_lt_of_le hk h.size) hne).trans (h.block k hk hne)⟩
theorem Moved.set (b i : Nat) (w : World) (v : Value) : Moved b w (w.setCell ⟨b, i, none⟩ v) :=
  ⟨rfl, rfl, rfl, by simp [World.setCell], fun k hk hne => Below.heap_setCell _ _ _ _ (by intro e; exact hne (by simp [e]))⟩
theorem Moved.size {b : Nat} {w w' : World} (h : Moved b w w') : w.heap.size ≤ w'.heap.size := World.grownBy.size h

def wrongP : List PanicEntry := [{ v := .iface 90 (.agg #[]), recovered := false }]
/-- Is the byte c at place k? -/
def nx (l : List UInt8) (k : Nat) (c : UInt8) : Bool := l[k]? == some c
theorem nx_at (s : ByteArray) (k : Nat) (c : UInt8) (h : k < s.size) : nx s.data.toList k c = ((s[k].toNat : Int) == (c.toNat : Int)) := by
  unfold nx
  rw [List.getElem?_eq_getElem (by simpa using h), u8_beq]
  rfl
theorem nx_end (s : ByteArray) (k : Nat) (c : UInt8) (h : ¬ k < s.size) : nx s.data.toList k c = false := by
  unfold nx
  rw [List.getElem?_eq_none (by simp; omega)]
  rfl

theorem need_ok (w : World) : Calls Tryz.prog 78 #[.bool true] w fun e w' => e = .returned (.tuple #[]) ∧ w' = w := by
  go_enter Tryz.func78, Tryz.ntmps78
  go_wp2
  go_returns
  exact ⟨rfl, rfl⟩
theorem need_no (w : World) : Calls Tryz.prog 78 #[.bool false] w fun e w' => e = .panicked wrongP ∧ w' = w := by
  go_enter Tryz.func78, Tryz.ntmps78
  go_wp2
  exact ⟨rfl, rfl, rfl⟩

theorem next_any (b : Nat) (s : ByteArray) (k : Nat) (c : UInt8) (w : World) (h : IsR w b s k) :
    Calls Tryz.prog 75 #[.pointer (some ⟨b, 0, none⟩), .int .u8 (c.toNat : Int)] w (Ret w (.bool (nx s.data.toList k c))) := by
  obtain ⟨q0, q1, -⟩ := h
  by_cases hk : k < s.size
  · rw [nx_at s k c hk]
    have hi0 : (0 : Int) ≤ (k : Int) := Int.natCast_nonneg _
    have hi1 : (k : Int) < (s.size : Int) := by omega
    go_enter Tryz.func75, Tryz.ntmps75
    go_wp2_with fail
    go_quiet (fail)
    go_wp2
    go_ret
    exact ⟨rfl, below_drawn _⟩
  · rw [nx_end s k c hk]
    have hi : decide ((k : Int) < (s.size : Int)) = false := by simp; omega
    go_enter Tryz.func75, Tryz.ntmps75
    go_wp2_with fail
    go_quiet (fail)
    go_wp2
    go_ret
    exact ⟨rfl, below_drawn _⟩

/-- A method of the reader is through: what it returns, the place behind; none: it panics. -/
def RQ (b : Nat) (s : ByteArray) (w : World) (o : Option (Value × Nat)) (e : Ending) (w' : World) : Prop :=
  match o with
  | some (v, k) => e = .returned v ∧ IsR w' b s k ∧ Moved b w w'
  | none => e = .panicked wrongP ∧ Moved b w w'

def mustS (l : List UInt8) (k : Nat) (c : UInt8) : Option (Value × Nat) := if nx l k c then some (.tuple #[], k + 1) else none

theorem must_any (b : Nat) (s : ByteArray) (k : Nat) (c : UInt8) (hk : k ≤ 1000000000000) (w : World) (h : IsR w b s k) :
    Calls Tryz.prog 77 #[.pointer (some ⟨b, 0, none⟩), .int .u8 (c.toNat : Int)] w (RQ b s w (mustS s.data.toList k c)) := by
  have N := next_any b s k c w h
  unfold mustS
  cases hn : nx s.data.toList k c with
  | true =>
    rw [hn] at N
    have HR := Lib.hid h
    clear h hn
    go_enter Tryz.func77, Tryz.ntmps77
    go_wp2_with (first
      | (go_at_call 75; refine N.mono ?_; rintro e w1 ⟨rfl, hb1⟩)
      | (go_at_call 78; refine (need_ok _).mono ?_; rintro e w2 ⟨rfl, rfl⟩; have HR2 := Lib.hid (HR.out.below hb1); have q0 := HR2.out.1; have q1 := HR2.out.2.1; have q2 := HR2.out.2.2; have HM := Lib.hid (Moved.of_below (b := b) hb1)))
    go_returns
    exact ⟨rfl, HR2.out.set (k + 1), HM.out.trans (Moved.set _ _ _ _)⟩
  | false =>
    rw [hn] at N
    clear h hn
    go_enter Tryz.func77, Tryz.ntmps77
    go_wp2_with (first
      | (go_at_call 75; refine N.mono ?_; rintro e w1 ⟨rfl, hb1⟩)
      | (go_at_call 78; refine (need_no _).mono ?_; rintro e w2 ⟨rfl, rfl⟩))
    exact ⟨rfl, rfl, Moved.of_below hb1⟩
end Go.Proofs.YtkkildkleleppaaGreatDoor
namespace Go.Proofs.YtkkildkleleppaaGreatDoor
open Go.RowKit

/-- What stands up to the quote's end, and how many bytes that takes. -/
def qBody : List UInt8 → Option (List UInt8 × Nat)
  | [] => none
  | [c] => if c = 39 then some ([], 1) else none
  | c :: d :: r => if c = 39 then (if d = 39 then (qBody r).map (fun x => (39 :: x.1, x.2 + 2)) else some ([], 1)) else (qBody (d :: r)).map (fun x => (c :: x.1, x.2 + 1))
theorem qBody_other (c : UInt8) (l : List UInt8) (h : c ≠ 39) : qBody (c :: l) = (qBody l).map (fun x => (c :: x.1, x.2 + 1)) := by
  cases l with
  | nil => simp [qBody, h]
  | cons d r => simp [qBody, h]
theorem qBody_two (r : List UInt8) : qBody (39 :: 39 :: r) = (qBody r).map (fun x => (39 :: x.1, x.2 + 2)) := by simp [qBody]
theorem qBody_end (l : List UInt8) (h : nx l 0 39 = false) : qBody (39 :: l) = some ([], 1) := by
  cases l with
  | nil => simp [qBody]
  | cons d r =>
    have hd : d ≠ 39 := by intro e; subst e; simp [nx] at h
    simp [qBody, hd]
def quotedS (l : List UInt8) (k : Nat) : Option (Value × Nat) := if nx l k 39 then (qBody (l.drop (k + 1))).map (fun x => (.string ⟨x.1.toArray⟩, k + 1 + x.2)) else none

theorem nx_drop (l : List UInt8) (k : Nat) (c : UInt8) : nx (l.drop k) 0 c = nx l k c := by simp [nx]
theorem nx_lt {s : ByteArray} {k : Nat} {c : UInt8} (h : nx s.data.toList k c = true) : k < s.size := by
  rcases Nat.lt_or_ge k s.size with h1 | h1
  · exact h1
  · rw [nx_end s k c (by omega)] at h; cases h
theorem nx_val {s : ByteArray} {k : Nat} {c : UInt8} (h : nx s.data.toList k c = true) : s[k]'(nx_lt h) = c := by
  have h1 := nx_lt h
  unfold nx at h
  rw [List.getElem?_eq_getElem (by simpa using h1)] at h
  have := beq_iff_eq.1 h
  injection this
theorem own_block_ge {e : TypeId} {w : World} {B : Nat} {v : Value} {l : List UInt8} (h : OwnB e w B v l) {g : Nat} (hg : v.ownBlock = some g) : B ≤ g := (h.lt g hg).1
theorem OwnB.moved {e : TypeId} {w w' : World} {B b : Nat} {v : Value} {l : List UInt8} (h : OwnB e w B v l) (hm : Moved b w w') (hb : b < B) : OwnB e w' B v l :=
  World.ownsRow.kept h hm (by
    cases ho : v.ownBlock with
    | none => exact .inl rfl
    | some g => exact .inr (fun e => by injection e with e; subst e; have := own_block_ge h ho; omega))
theorem Moved.grown {e : TypeId} {w wr w' : World} {b : Nat} {v : Value} {l : List UInt8} (h : Moved b w wr) (ho : OwnB e wr w.heap.size v l) (hg : wr.grownBy w' v.ownBlock) : Moved b w w' :=
  ⟨hg.os.trans h.os, hg.tape.trans h.tape, hg.output.trans h.output, Nat.le_trans h.size hg.size, fun k hk hne =>
    (hg.block k (Nat.lt_of_lt_of_le hk h.size) (fun e => by have := own_block_ge ho e.symm; omega)).trans (h.block k hk hne)⟩
theorem IsR.grown {e : TypeId} {w w' : World} {b B k : Nat} {s : ByteArray} {v : Value} {l : List UInt8} (h : IsR w b s k) (ho : OwnB e w B v l) (hg : w.grownBy w' v.ownBlock) (hb : b < B) : IsR w' b s k := by
  have hk := hg.block b h.lt (fun e => by have := own_block_ge ho e.symm; omega)
  refine ⟨?_, ?_, ?_⟩
  · have := h.1; unfold World.cell? at *; rw [hk]; exact this
  · have := h.2.1; unfold World.cell? at *; rw [hk]; exact this
  · have := h.2.2; exact (World.frozen?_of_block (w := w) (w' := w') (a := ⟨b, 1, none⟩) hk).trans this

section
variable {P : Program} {ops : Array Oper} {o : Oper} {rest : List Oper} {a : Act} {Q : Exit → Act → World → Prop}
theorem wpList_pushB2 (wr : World) (e : TypeId) (cs : Array Value) (hgd : o.guard = none) (s x : Operand) (t : TypeId)
    (ho : o.op = .call { callee := .builtin .append, args := #[s, x], argTypes := #[t, t] })
    (B : Nat) (ht : P.underlying t = some (.slice e)) (hinfo : (P.info? e).map (fun i => (i.zero, i.size, i.bytes)) = some (some (.int .u8 0), 1, 1))
    (v : Value) (l : List UInt8) (hs : a.eval s = v) (hown : OwnB e wr B v l) (news : List UInt8) (hcs : cs.toList = bcells news)
    (m c z : Nat) (hz : wr.heap.size = z) (hx : a.eval x = .slice (some ⟨z, 0, none⟩) m c) (hm : news.length = m) (hsz : l.length + m ≤ 1099511627776) (hB : B ≤ wr.heap.size)
    (h : ∀ v' w', OwnB e w' B v' (l ++ news) → wr.grownBy w' v.ownBlock → wpList P ops Q rest (a.put o.dst v') w') : wpList P ops Q (o :: rest) a (wr.alloc (.cells cs e)) := by
  subst hz
  exact wpList_pushB wr e cs hgd s x t ho B ht hinfo v l hs hown news hcs m c hx hm hsz hB h
end
theorem set_size (w : World) (p : Addr) (v : Value) : (w.setCell p v).heap.size = w.heap.size := by simp [World.setCell]
theorem Moved.drew {b : Nat} {w w' : World} (h : Moved b w w') : Moved b w w'.drew := h.trans ⟨rfl, rfl, rfl, Nat.le_refl _, fun _ _ _ => rfl⟩
theorem Moved.drewN {b : Nat} {w w' : World} (h : Moved b w w') (n : Nat) : Moved b w (w'.drewN n) := h.trans ⟨rfl, rfl, rfl, Nat.le_refl _, fun _ _ _ => rfl⟩
theorem IsR.drewN {w : World} {b k : Nat} {s : ByteArray} (h : IsR w b s k) (n : Nat) : IsR (w.drewN n) b s k := h

set_option maxRecDepth 100000 in
set_option maxHeartbeats 1000000 in
theorem quoted_any (b : Nat) (s : ByteArray) (k : Nat) (hk : s.size ≤ 100000000) (w : World) (h : IsR w b s k) (hks : k ≤ s.size) :
    Calls Tryz.prog 74 #[.pointer (some ⟨b, 0, none⟩)] w (RQ b s w (quotedS s.data.toList k)) := by
  have hbl := h.lt
  have M := Lib.hid (must_any b s k 39 (by omega) w h)
  unfold quotedS
  unfold mustS at M
  cases hn : nx s.data.toList k 39 with
  | false =>
    rw [hn] at M
    clear h hn
    go_enter Tryz.func74, Tryz.ntmps74
    go_wp2_with (go_at_call 77; refine M.out.mono ?_; rintro e w1 ⟨rfl, hm1⟩)
    exact ⟨rfl, rfl, hm1⟩
  | true =>
    rw [hn] at M
    have hks := nx_lt hn
    simp only [if_true]
    clear h hn
    go_enter Tryz.func74, Tryz.ntmps74
    go_wp2_with (go_at_call 77; refine M.out.mono ?_; rintro e w1 ⟨rfl, hr1, hm1⟩)
    go_loopw [3] (fun out wr => ∃ (j : Nat) (acc : List UInt8), k + 1 ≤ j ∧ j ≤ s.size ∧ acc.length ≤ j ∧ IsR wr b s j ∧ Moved b w wr ∧ OwnB 5 wr w.heap.size out acc ∧
        Hid (qBody (s.data.toList.drop (k + 1)) = (qBody (s.data.toList.drop j)).map (fun x => (acc ++ x.1, j - (k + 1) + x.2)))) (fun _ wr => s.size - (match wr.cell? ⟨b, 1, none⟩ with | some v => (intOf v).toNat | none => 0))
    case atStart => exact ⟨k + 1, [], by omega, by omega, by simp, hr1, hm1, OwnB.nil_ _ _ _, Lib.hid (by simp)⟩
    case round =>
      obtain ⟨j, acc, hkj, hjs, hal, hr, hm, hown, HX⟩ := hrel
      have q0 := hr.1
      have q1 := hr.2.1
      have q2 := hr.2.2
      have HR := Lib.hid hr
      have HM := Lib.hid hm
      clear hr hm
      by_cases hlt : j < s.size
      · have HD := Lib.hid (drop_one s j hlt)
        have hi0 : (0 : Int) ≤ (j : Int) := Int.natCast_nonneg _
        have hi1 : (j : Int) < (s.size : Int) := by omega
        have HA : ∀ n, IsR ((wr.drewN n).setCell ⟨b, 1, none⟩ (.int .i64 ((j : Int) + 1))) b s (j + 1) ∧ Moved b w ((wr.drewN n).setCell ⟨b, 1, none⟩ (.int .i64 ((j : Int) + 1))) ∧ OwnB 5 ((wr.drewN n).setCell ⟨b, 1, none⟩ (.int .i64 ((j : Int) + 1))) w.heap.size u3 acc :=
          fun n => ⟨(HR.out.drewN n).set (j + 1), (HM.out.drewN n).trans (Moved.set _ _ _ _), hown.moved (((Moved.refl b wr).drewN n).trans (Moved.set _ _ _ _)) hbl⟩
        have HA := Lib.hid HA
        by_cases h39 : s[j] = 39
        · have hq : ((s[j].toNat : Int) == 39) = true := u8_eq h39
          have N := fun w' h => next_any b s (j + 1) 39 w' h
          cases hn : nx s.data.toList (j + 1) 39 with
          | true =>
            simp only [hn] at N
            have HN := Lib.hid N
            have hj1 := nx_lt hn
            have HV : Hid (s[j + 1]'hj1 = 39) := Lib.hid (nx_val hn)
            have HD1 := Lib.hid (drop_one s (j + 1) hj1)
            have H39 := Lib.hid h39
            clear N hn h39
            go_wp2_with fail
            go_quiet ((go_at_call 78; exact Calls.quiet_of_same (need_ok _)))
            go_wp2_with fail
            go_quiet (fail)
            go_wp2_with (first
              | (go_at_call 75; refine (HN.out _ (HA.out _).1).mono ?_; rintro e w2 ⟨rfl, hb2⟩; have HR2 := Lib.hid ((HA.out _).1.below hb2); have HM2 := Lib.hid ((HA.out _).2.1.trans (Moved.of_below hb2)); have hown2 := (HA.out _).2.2.kept hb2; have p0 := HR2.out.1; have p1 := HR2.out.2.1; have p2 := HR2.out.2.2)
              | (at_builtin; refine wpList_pushB2 (w2.setCell ⟨b, 1, none⟩ (.int .i64 ((j : Int) + 1 + 1))) 5 _ rfl (.tmp 48) (.tmp 50) _ rfl w.heap.size Tryz.underlying67 infoB _ acc rfl (hown2.moved (Moved.set _ _ _ _) hbl) [s[j]] rfl 1 1 _ (set_size _ _ _) rfl rfl (by simp; omega) (HM2.out.trans (Moved.set _ _ _ _)).size ?_; intro v3 w3 hown3 hg3))
            have HR3 := (HR2.out.set (j + 2)).grown (hown2.moved (Moved.set _ _ _ _) hbl) hg3 hbl
            go_roundw
            case rel =>
              refine ⟨j + 2, acc ++ [s[j]], by omega, by omega, by simp; omega, HR3, (HM2.out.trans (Moved.set _ _ _ _)).grown (hown2.moved (Moved.set _ _ _ _) hbl) hg3, hown3, ?_⟩
              apply Lib.hid
              rw [HX.out, HD.out, HD1.out, H39.out, HV.out, qBody_two]
              cases qBody (s.data.toList.drop (j + 1 + 1)) with
              | none => rfl
              | some x => simp; omega
            case measure =>
              have h1 := HR3.2.1
              rw [h1, q1]; simp [intOf]; omega
          | false =>
            simp only [hn] at N
            have HN := Lib.hid N
            have HE : Hid (qBody (s.data.toList.drop (k + 1)) = some (acc, j - (k + 1) + 1)) := by
              apply Lib.hid
              rw [HX.out, HD.out, h39, qBody_end _ (by rw [nx_drop]; exact hn)]
              simp
            clear N hn h39
            go_wp2_with fail
            go_quiet ((go_at_call 78; exact Calls.quiet_of_same (need_ok _)))
            go_wp2_with fail
            go_quiet (fail)
            go_wp2_with (first
              | (go_at_call 75; refine (HN.out _ (HA.out _).1).mono ?_; rintro e w2 ⟨rfl, hb2⟩; have HR2 := Lib.hid ((HA.out _).1.below hb2); have HM2 := Lib.hid ((HA.out _).2.1.trans (Moved.of_below hb2)); have hown2 := (HA.out _).2.2.kept hb2; have hcv := run_convert_own (P := Tryz.prog) w2 _ 5 9 Tryz.underlying67 Tryz.underlying5 Tryz.underlying9 _ _ _ hown2))
            go_ret
            rw [HE.out]
            refine ⟨rfl, ?_, HM2.out⟩
            have : k + 1 + (j - (k + 1) + 1) = j + 1 := by omega
            rw [this]; exact HR2.out
        · have hq : ((s[j].toNat : Int) == 39) = false := u8_ne h39
          have HT : Hid (qBody (s.data.toList.drop (k + 1)) = (qBody (s.data.toList.drop (j + 1))).map (fun x => (acc ++ [s[j]] ++ x.1, j + 1 - (k + 1) + x.2))) := by
            apply Lib.hid
            rw [HX.out, HD.out, qBody_other _ _ h39]
            cases qBody (s.data.toList.drop (j + 1)) with
            | none => rfl
            | some x => simp; omega
          clear h39
          go_wp2_with fail
          go_quiet ((go_at_call 78; exact Calls.quiet_of_same (need_ok _)))
          go_wp2_with fail
          go_quiet (fail)
          go_wp2_with (at_builtin; refine wpList_pushB2 ((wr.drewN _).setCell ⟨b, 1, none⟩ (.int .i64 ((j : Int) + 1))) 5 _ rfl (.tmp 48) (.tmp 50) _ rfl w.heap.size Tryz.underlying67 infoB _ acc rfl (HA.out _).2.2 [s[j]] rfl 1 1 _ (set_size _ _ _) rfl rfl (by simp; omega) (HA.out _).2.1.size ?_; intro v3 w3 hown3 hg3)
          go_wp2
          go_roundw
          case rel =>
            refine ⟨j + 1, acc ++ [s[j]], by omega, by omega, by simp; omega, (HA.out _).1.grown (HA.out _).2.2 hg3 hbl, (HA.out _).2.1.grown (HA.out _).2.2 hg3, hown3, HT⟩
          case measure =>
            have h1 := ((HA.out _).1.grown (HA.out _).2.2 hg3 hbl).2.1
            rw [h1, q1]; simp [intOf]; omega
      · have hd : s.data.toList.drop j = [] := List.drop_of_length_le (by simp; omega)
        have HN : Hid (qBody (s.data.toList.drop (k + 1)) = none) := Lib.hid (by rw [HX.out, hd]; rfl)
        clear hd
        have hi : decide ((j : Int) < (s.size : Int)) = false := by simp; omega
        go_wp2_with fail
        go_still_tail 10, (by kernel_rfl)
        change wpList _ _ _ _ _ wr.drew
        go_wp2_with (go_at_call 78; refine (need_no _).mono ?_; rintro e w2 ⟨rfl, rfl⟩)
        refine ⟨rfl, ?_⟩
        rw [HN.out]
        exact ⟨rfl, HM.out.drew⟩
end Go.Proofs.YtkkildkleleppaaGreatDoor
