/- The shell's reader: values. The shell's closures that read what follows an event's numbers. -/
import Derived.Test.YtkkildkleleppaaGreatDoorJ21
import Derived.Test.YtkkildkleleppaaGreatDoorJ22
import Derived.Deep.CutBlock
namespace Go.Proofs.YtkkildkleleppaaGreatDoor
open Go.RowKit

/-- Values are read: a row of the call's own, the state behind. -/
def ValsE (b : Nat) (w : World) (o : Option (List V × St)) (e : Ending) (w' : World) : Prop :=
  match o with
  | none => e = .panicked (wrong32 421) ∧ Moved b w w'
  | some x => ∃ v, e = .returned v ∧ w'.ownsRow w.heap.size 80 3 v x.1.length (vcells x.1) ∧ IsQ w' b x.2 ∧ Moved b w w'

theorem cutX_stop {l r : List UInt8} {q : Bool} (h : l = 32 :: r) (hq : q = false) : cutX false q l = ([], r, true) := by
  subst h hq
  simp [cutX, togP, tog]
theorem cutX_go {l r : List UInt8} {q : Bool} {c : UInt8} (h : l = c :: r) (hc : ¬ (c = 32 ∧ tog q c = false)) : cutX false q l = (c :: (cutX false (tog q c) r).1, (cutX false (tog q c) r).2) := by
  subst h
  simp only [cutX, togP, Bool.false_eq_true, if_false]
  rw [if_neg hc]
/-- The look for the blank: what has been passed. -/
def CX (l : List UInt8) (q : Bool) (k : Nat) : Prop := cutX false false l = (l.take k ++ (cutX false q (l.drop k)).1, (cutX false q (l.drop k)).2)
theorem CX.start (l : List UInt8) : CX l false 0 := by simp [CX]
theorem CX.go {l : List UInt8} {q : Bool} {k : Nat} (h : CX l q k) (hk : k < l.length) (hc : ¬ (l[k] = 32 ∧ tog q l[k] = false)) : CX l (tog q l[k]) (k + 1) := by
  unfold CX at *
  rw [h, cutX_go (List.drop_eq_getElem_cons hk) hc, List.take_succ_eq_append_getElem hk]
  simp only [List.append_assoc, List.singleton_append]
theorem CX.stop {l : List UInt8} {k : Nat} (h : CX l false k) (hk : k < l.length) (hc : l[k] = 32) : cutX false false l = (l.take k, l.drop (k + 1), true) := by
  unfold CX at h
  rw [h, cutX_stop (r := l.drop (k + 1)) (by rw [List.drop_eq_getElem_cons hk, hc]) rfl]
  simp
theorem CX.done {l : List UInt8} {q : Bool} (h : CX l q l.length) : cutX false false l = (l, [], false) := by
  unfold CX at h
  rw [h, List.drop_length, List.take_length]
  simp [cutX]

theorem IsQ.setB {w : World} {b : Nat} {s : St} (h : IsQ w b s) (S : ByteArray) (m : Bool) : IsQ (((w.setCell ⟨b, 1, none⟩ (.bool m)).setCell ⟨b, 0, none⟩ (.string S)).drew) b (S.data.toList, m) := by
  obtain ⟨h0, h1, h2, h3⟩ := h
  refine ⟨?_, ?_, ?_, ?_⟩ <;> simp [go_sem, h0, h1, h2, h3]
theorem valsOwn {w : World} {B b n : Nat} {v : Value} {xs : List Value} (h : w.ownsRow B 80 3 v n xs) (hb : b < B) (x y : Value) : ((w.setCell ⟨b, 1, none⟩ x).setCell ⟨b, 0, none⟩ y).ownsRow B 80 3 v n xs := by
  have h1 := own_moved h (Moved.set b 1 w x) (own_far h hb)
  exact own_moved h1 (Moved.set b 0 _ y) (own_far h1 hb)

set_option maxRecDepth 100000 in
set_option maxHeartbeats 4000000 in
theorem values_any (b : Nat) (s : St) (hl : s.1.length ≤ 100000000) (w : World) (h : IsQ w b s) (hE : EnvB b w) :
    Calls Tryz.prog 90 #[.pointer (some ⟨b, 0, none⟩)] w (ValsE b w (valsS s)) := by
  obtain ⟨l, m⟩ := s
  obtain ⟨S, rfl⟩ : ∃ S : ByteArray, l = S.data.toList := ⟨⟨l.toArray⟩, rfl⟩
  have q0 := h.1
  have q1 := h.2.1
  have q2 := h.2.2.1
  have q3 := h.2.2.2
  simp only [arr_self] at q0 q1
  have hbl := h.lt
  have HQ := Lib.hid h
  clear h
  simp only [size_len] at hl
  cases m with
  | false =>
    have HN : Hid (valsS (S.data.toList, false) = none) := Lib.hid rfl
    go_enter Tryz.func90, Tryz.ntmps90
    go_wp2_with (go_at_call 44; refine (sneed_no _).mono ?_; rintro e w1 ⟨rfl, rfl⟩)
    refine ⟨rfl, ?_⟩
    rw [HN.out]
    exact ⟨rfl, Moved.refl _ _⟩
  | true =>
    have HV : Hid (valsS (S.data.toList, true) = (readVs (splitC false [] (cutX false false S.data.toList).1)).map fun vs => (vs, (cutX false false S.data.toList).2)) := Lib.hid rfl
    have H0 := Lib.hid (CX.start S.data.toList)
    go_enter Tryz.func90, Tryz.ntmps90
    go_upto_block 0 with (go_at_call 44; refine (sneed_ok _).mono ?_; rintro e w1 ⟨rfl, rfl⟩)
    go_cut [4] (fun e wx => ∃ k : Nat, e = .int .i64 k ∧ k ≤ S.size ∧ wx = w1 ∧ cutX false false S.data.toList = (S.data.toList.take k, if k < S.size then (S.data.toList.drop (k + 1), true) else ([], false)))
    case first =>
      go_wp2_with fail
      go_loopw [3, 4, 5, 22] (fun iq e _ i wr => ∃ (k : Nat) (q : Bool), k ≤ S.size ∧ i = .int .i64 k ∧ iq = .bool q ∧ e = .int .i64 (S.size : Nat) ∧ wr = w1 ∧ Hid (CX S.data.toList q k)) (fun _ _ _ i _ => S.size - (intOf i).toNat)
      case atStart => exact ⟨0, false, by omega, rfl, rfl, rfl, rfl, H0⟩
      case round =>
        obtain ⟨k, q, hk, rfl, rfl, rfl, rfl, HX⟩ := hrel
        by_cases hlt : k < S.size
        · have hkl : k < S.data.toList.length := hlt
          have hg : S.data.toList[k] = S[k] := rfl
          have i0 : (0 : Int) ≤ (k : Int) := Int.natCast_nonneg _
          have i1 : (k : Int) < (S.size : Int) := by omega
          by_cases h39 : S[k] = 39
          · have a1 : ((S[k].toNat : Int) == 39) = true := u8_eq h39
            have a2 : ((S[k].toNat : Int) == 32) = false := by rw [h39]; decide
            have HX1 : Hid (CX S.data.toList (!q) (k + 1)) := by
              have h := HX.out.go hkl (by rw [hg, h39]; rintro ⟨h, -⟩; exact absurd h (by decide))
              rw [hg, h39] at h
              exact Lib.hid h
            clear h39 hg
            go_wp2_with fail
            go_roundw
            case rel => exact ⟨k + 1, !q, by omega, by go_num, (by first | trivial | rfl), (by first | trivial | rfl), (by first | trivial | rfl), HX1⟩
            case measure => simp [intOf]; omega
          · have a1 : ((S[k].toNat : Int) == 39) = false := u8_ne h39
            have htq : tog q S[k] = q := by simp [tog, h39]
            by_cases h32 : S[k] = 32
            · have a2 : ((S[k].toNat : Int) == 32) = true := u8_eq h32
              cases q with
              | true =>
                have HX1 : Hid (CX S.data.toList true (k + 1)) := by
                  have h := HX.out.go hkl (by rw [hg, htq]; rintro ⟨-, h⟩; cases h)
                  rw [hg, htq] at h
                  exact Lib.hid h
                clear h39 h32 htq hg
                go_wp2_with fail
                go_roundw
                case rel => exact ⟨k + 1, true, by omega, by go_num, (by first | trivial | rfl), (by first | trivial | rfl), (by first | trivial | rfl), HX1⟩
                case measure => simp [intOf]; omega
              | false =>
                have HC : Hid (cutX false false S.data.toList = (S.data.toList.take k, if k < S.size then (S.data.toList.drop (k + 1), true) else ([], false))) := Lib.hid (by rw [if_pos hlt]; exact HX.out.stop hkl h32)
                clear h39 h32 htq hg
                go_wp2_with fail
                go_meet
                case rel => exact ⟨k, rfl, by omega, rfl, HC.out⟩
            · have a2 : ((S[k].toNat : Int) == 32) = false := u8_ne h32
              have HX1 : Hid (CX S.data.toList q (k + 1)) := by
                have h := HX.out.go hkl (by rw [hg]; rintro ⟨h, -⟩; exact h32 h)
                rw [hg, htq] at h
                exact Lib.hid h
              clear h39 h32 htq hg
              go_wp2_with fail
              go_roundw
              case rel => exact ⟨k + 1, q, by omega, by go_num, (by first | trivial | rfl), (by first | trivial | rfl), (by first | trivial | rfl), HX1⟩
              case measure => simp [intOf]; omega
        · have hkn : k = S.size := by omega
          have HC : Hid (cutX false false S.data.toList = (S.data.toList.take S.size, if S.size < S.size then (S.data.toList.drop (S.size + 1), true) else ([], false))) := Lib.hid (by
            rw [if_neg (by omega), take_all]
            have h := HX.out
            rw [hkn] at h
            exact h.done)
          have i1 : ¬ (k : Int) < (S.size : Int) := by omega
          clear hkn
          go_wp2_with fail
          go_meet
          case rel => exact ⟨S.size, rfl, by omega, rfl, HC.out⟩
    case rest =>
      obtain ⟨k, rfl, hk, rfl, hc⟩ := hcut
      have i0 : (0 : Int) ≤ (k : Int) := Int.natCast_nonneg _
      have i1 : (k : Int) ≤ (S.size : Int) := by omega
      have hL := literals_any (S.extract 0 k) (by rw [ByteArray.size_extract]; omega) wc hE.env
      have hex : (S.extract 0 k).data.toList = S.data.toList.take k := by rw [extract_list]; simp
      rw [hex] at hL
      have HV2 := HV.out
      rw [hc] at HV2
      simp only at HV2
      cases hr : readVs (splitC false [] (S.data.toList.take k)) with
      | none =>
        rw [hr] at hL HV2
        have HL := Lib.hid hL
        have HN : Hid (valsS (S.data.toList, true) = none) := Lib.hid HV2
        clear hL hr hc hex HV2
        go_wp2_with (go_at_call 129; refine HL.out.mono ?_; rintro e w2 ⟨rfl, hb2⟩)
        refine ⟨rfl, ?_⟩
        rw [HN.out]
        exact ⟨rfl, Moved.of_below hb2⟩
      | some vs =>
        rw [hr] at hL HV2
        have HL := Lib.hid hL
        have HN : Hid (valsS (S.data.toList, true) = some (vs, if k < S.size then (S.data.toList.drop (k + 1), true) else ([], false))) := Lib.hid HV2
        clear hL hr hc hex HV2
        go_wp2_with (go_at_call 129; refine HL.out.mono ?_; rintro e w2 ⟨v, rfl, hown2, hb2⟩; have HQ2 := Lib.hid (HQ.out.below hb2); have p0 := HQ2.out.1; have p1 := HQ2.out.2.1; have p2 := HQ2.out.2.2.1; have p3 := HQ2.out.2.2.2; simp only [arr_self] at p0 p1)
        by_cases hlt : k < S.size
        · have g0 : IntKind.i64.wrap ((k : Int) + 1) = (k : Int) + 1 := IntWalk.i64_in _ (by omega)
          have g1 : (k : Int) + 1 ≤ (S.size : Int) := by omega
          have g2 : ((k : Int) + 1).toNat = k + 1 := by omega
          have g3 : (min ((k : Int) + 1) (S.size : Int)).toNat = k + 1 := by omega
          have HF : Hid ((S.extract (k + 1) S.size).data.toList = S.data.toList.drop (k + 1)) := Lib.hid (by rw [extract_list, take_all])
          have HG := Lib.hid g3
          clear g3
          go_region
          go_wp2
          go_ret
          rw [HN.out, if_pos hlt, HG.out, ← HF.out]
          exact ⟨v, rfl, own_drew (valsOwn hown2 hbl _ _), HQ2.out.setB _ true, ((((Moved.of_below hb2).trans (Moved.set _ _ _ _)).trans (Moved.set _ _ _ _)).drew)⟩
        · have hkn : k = S.size := by omega
          have g0 : IntKind.i64.wrap ((k : Int) + 1) = (k : Int) + 1 := IntWalk.i64_in _ (by omega)
          have g1 : (S.size : Int) ≤ (k : Int) + 1 := by omega
          have g3 : (min ((k : Int) + 1) (S.size : Int)).toNat = S.size := by omega
          have HF : Hid ((S.extract S.size S.size).data.toList = []) := Lib.hid (by rw [extract_list, take_all]; simp)
          have HG := Lib.hid g3
          clear g3 hkn
          go_region
          go_wp2
          go_ret
          rw [HN.out, if_neg hlt, HG.out, ← HF.out]
          exact ⟨v, rfl, own_drew (valsOwn hown2 hbl _ _), HQ2.out.setB _ false, ((((Moved.of_below hb2).trans (Moved.set _ _ _ _)).trans (Moved.set _ _ _ _)).drew)⟩
end Go.Proofs.YtkkildkleleppaaGreatDoor
namespace Go.Proofs.YtkkildkleleppaaGreatDoor
open Go.RowKit

/-! ### A block known whole -/
def Blk (w : World) (g : Nat) (cs : Array Value) (T : TypeId) : Prop := w.heap[g]? = some (.cells cs T (0, 0))
section
variable {w w' : World} {g b : Nat} {cs : Array Value} {T : TypeId}
theorem Blk.cell (h : Blk w g cs T) (i : Nat) : w.cell? ⟨g, i, none⟩ = cs[i]? := cell_of_row w g i cs T (0, 0) h
theorem Blk.free (h : Blk w g cs T) (i : Nat) : w.frozen? ⟨g, i, none⟩ = false := frozen_of_row w g i cs T h
theorem Blk.lt (h : Blk w g cs T) : g < w.heap.size := (Array.getElem?_eq_some_iff.1 h).1
theorem Blk.moved (h : Blk w g cs T) (hm : Moved b w w') (hb : b ≠ g) : Blk w' g cs T :=
  (hm.block g h.lt (by intro e; injection e with e; exact hb e.symm)).trans h
theorem Blk.below (h : Blk w g cs T) (hb : Below w.heap.size w w') : Blk w' g cs T := (hb.block g h.lt).trans h
theorem Blk.alloc (h : Blk w g cs T) (o : Obj) : Blk (w.alloc o) g cs T := h.below (below_alloc _ _)
theorem Blk.new (w : World) (cs : Array Value) (T : TypeId) : Blk (w.alloc (.cells cs T)) w.heap.size cs T := heap_alloc_new w _
theorem Blk.set (h : Blk w g cs T) (i : Nat) (v : Value) : Blk (w.setCell ⟨g, i, none⟩ v) g (cs.setIfInBounds i v) T := Go.heap_setCell_same w g i cs T v h
theorem Blk.setO (h : Blk w g cs T) {p : Addr} (hp : g ≠ p.block) (v : Value) : Blk (w.setCell p v) g cs T := (heap_setCell_other w p g v hp).trans h
theorem Blk.drew (h : Blk w g cs T) : Blk w.drew g cs T := h
theorem Blk.apart {B size n : Nat} {v : Value} {xs : List Value} {e : TypeId} (h : Blk w g cs T) (ho : w.ownsRow B e size v n xs) (hne : e ≠ T) : v.ownBlock = none ∨ v.ownBlock ≠ some g := by
  rcases ho.2 with ⟨rfl, _⟩ | ⟨g', cap, cur, rfl, _, hg', _⟩
  · exact .inl rfl
  · refine .inr ?_
    simp only [Value.ownBlock, ne_eq, Option.some.injEq]
    intro e1
    subst e1
    unfold Blk at h
    rw [hg'] at h
    injection h with h
    injection h with _ h2
    exact hne h2
theorem Blk.own_set {B size n : Nat} {v : Value} {xs : List Value} {e : TypeId} (h : Blk w g cs T) (ho : w.ownsRow B e size v n xs) (hne : e ≠ T) (i : Nat) (x : Value) : (w.setCell ⟨g, i, none⟩ x).ownsRow B e size v n xs :=
  own_moved ho (Moved.set g i w x) (h.apart ho hne)
theorem Blk.grown {B size n : Nat} {v : Value} {xs : List Value} {e : TypeId} (h : Blk w g cs T) (ho : w.ownsRow B e size v n xs) (hg : w.grownBy w' v.ownBlock) (hne : e ≠ T) : Blk w' g cs T := by
  refine (hg.block g h.lt ?_).trans h
  intro e1
  rcases ho.2 with ⟨rfl, _⟩ | ⟨g', cap, cur, rfl, _, hg', _⟩
  · cases e1
  · simp only [Value.ownBlock, Option.some.injEq] at e1
    subst e1
    unfold Blk at h
    rw [hg'] at h
    injection h with h
    injection h with _ h2
    exact hne h2
end

/-- An event's variable. -/
def EBox (w : World) (g : Nat) (k c es : Int) (sql : ByteArray) (pv : Value) : Prop := Blk w g #[.int .i64 k, .int .i64 c, .int .i64 es, .string sql, pv] 42
section
variable {w : World} {g : Nat} {k c es : Int} {sql : ByteArray} {pv : Value}
theorem EBox.cells (h : EBox w g k c es sql pv) : w.cell? ⟨g, 0, none⟩ = some (.int .i64 k) ∧ w.cell? ⟨g, 1, none⟩ = some (.int .i64 c) ∧ w.cell? ⟨g, 2, none⟩ = some (.int .i64 es) ∧ w.cell? ⟨g, 3, none⟩ = some (.string sql) ∧ w.cell? ⟨g, 4, none⟩ = some pv :=
  ⟨Blk.cell h 0, Blk.cell h 1, Blk.cell h 2, Blk.cell h 3, Blk.cell h 4⟩
theorem EBox.set2 (h : EBox w g k c es sql pv) (n : Int) : EBox (w.setCell ⟨g, 2, none⟩ (.int .i64 n)) g k c n sql pv := Blk.set h 2 _
theorem EBox.set3 (h : EBox w g k c es sql pv) (s : ByteArray) : EBox (w.setCell ⟨g, 3, none⟩ (.string s)) g k c es s pv := Blk.set h 3 _
theorem EBox.set4 (h : EBox w g k c es sql pv) (v : Value) : EBox (w.setCell ⟨g, 4, none⟩ v) g k c es sql v := Blk.set h 4 _
end

/-- What follows has been read into the event's variable. -/
def TailE (w0 : World) (b g : Nat) (k c es : Int) (o : Option ((ByteArray × List V) × St)) (e : Ending) (w' : World) : Prop :=
  match o with
  | none => e = .panicked (wrong32 421) ∧ Moved b w0 w'
  | some x => ∃ pv, e = .returned (.tuple #[]) ∧ EBox w' g k c es x.1.1 pv ∧ w'.ownsRow w0.heap.size 80 3 pv x.1.2.length (vcells x.1.2) ∧ IsQ w' b x.2 ∧ Moved b w0 w'
/-- Function R reads it so. -/
def ReadsTail (R : FuncId) (t : Nat) : Prop := ∀ (w0 : World) (b g : Nat) (k c es : Int) (s : St) (w : World), s.1.length ≤ 100000000 → b < w0.heap.size → w0.heap.size ≤ g → Moved b w0 w → EnvB b w → IsQ w b s →
  EBox w g k c es ByteArray.empty (.slice none 0 0) → Calls Tryz.prog R #[.pointer (some ⟨b, 0, none⟩), .pointer (some ⟨g, 0, none⟩)] w (TailE w0 b g k c es (tailR t s))

theorem tail0 : ReadsTail 83 0 := by
  intro w0 b g k c es s w hs hb hg hm hE hq hbx
  have HB := Lib.hid hbx
  have HQ := Lib.hid hq
  clear hbx hq
  go_enter Tryz.func83, Tryz.ntmps83
  go_wp2
  go_returns
  exact ⟨_, rfl, HB.out, World.ownsRow_nil _ _ _ _, HQ.out, hm⟩

theorem tail1 : ReadsTail 85 1 := by
  intro w0 b g k c es s w hs hb hg hm hE hq hbx
  have HB := Lib.hid hbx
  have hA := all_any b s w hq
  have hgb : b ≠ g := by omega
  clear hbx hq
  cases ha : allS s with
  | none =>
    have HN : Hid (tailR 1 s = none) := Lib.hid (by simp [tailR, ha])
    rw [ha] at hA
    have HA := Lib.hid hA
    clear hA ha
    go_enter Tryz.func85, Tryz.ntmps85
    go_wp2_with (go_at_call 86; refine HA.out.mono ?_; rintro e w1 ⟨rfl, hm1⟩)
    refine ⟨rfl, ?_⟩
    rw [HN.out]
    exact ⟨rfl, hm.trans hm1⟩
  | some x =>
    obtain ⟨x, s'⟩ := x
    have HN : Hid (tailR 1 s = some ((⟨x.toArray⟩, []), s')) := Lib.hid (by simp [tailR, ha])
    rw [ha] at hA
    have HA := Lib.hid hA
    clear hA ha
    go_enter Tryz.func85, Tryz.ntmps85
    go_wp2_with (go_at_call 86; refine HA.out.mono ?_; rintro e w1 ⟨rfl, hq1, hm1⟩; have HB1 := Lib.hid (Blk.moved HB.out hm1 hgb); obtain ⟨c0, c1, c2, c3, c4⟩ := EBox.cells HB1.out; have f3 := Blk.free HB1.out 3)
    go_returns
    rw [HN.out]
    exact ⟨_, rfl, EBox.set3 HB1.out _, World.ownsRow_nil _ _ _ _, hq1.setO (fun e => hgb e.symm) _, (hm.trans hm1).setO hg _⟩

theorem vals_len {s s' : St} {vs : List V} (h : valsS s = some (vs, s')) : s'.1.length ≤ s.1.length := by
  unfold valsS at h
  split at h
  · cases hr : readVs (splitC false [] (cutX false false s.1).1) with
    | none => rw [hr] at h; cases h
    | some us =>
      rw [hr] at h
      simp only [Option.map_some, Option.some.injEq, Prod.mk.injEq] at h
      obtain ⟨-, rfl⟩ := h
      exact (cutX_len _ _ _).2
  · cases h

theorem tail2 : ReadsTail 89 2 := by
  intro w0 b g k c es s w hs hb hg hm hE hq hbx
  have HB := Lib.hid hbx
  have hV := values_any b s hs w hq hE
  have hgb : b ≠ g := by omega
  clear hbx hq
  cases hv : valsS s with
  | none =>
    have HN : Hid (tailR 2 s = none) := Lib.hid (by simp [tailR, hv])
    rw [hv] at hV
    have HV := Lib.hid hV
    clear hV hv
    go_enter Tryz.func89, Tryz.ntmps89
    go_wp2_with (go_at_call 90; refine HV.out.mono ?_; rintro e w1 ⟨rfl, hm1⟩)
    refine ⟨rfl, ?_⟩
    rw [HN.out]
    exact ⟨rfl, hm.trans hm1⟩
  | some y =>
    obtain ⟨vs, s'⟩ := y
    have HA := Lib.hid (fun w' h => all_any b s' w' h)
    rw [hv] at hV
    have HV := Lib.hid hV
    clear hV
    cases ha : allS s' with
    | none =>
      have HN : Hid (tailR 2 s = none) := Lib.hid (by simp [tailR, hv, ha])
      rw [ha] at HA
      clear hv ha
      go_enter Tryz.func89, Tryz.ntmps89
      go_wp2_with (first
        | (go_at_call 90; refine HV.out.mono ?_; rintro e w1 ⟨pv, rfl, hown1, hq1, hm1⟩; obtain ⟨pa, pc, hpv, -, -, -⟩ := own_form hown1; subst hpv; have HB1 := Lib.hid (Blk.moved HB.out hm1 hgb); obtain ⟨c0, c1, c2, c3, c4⟩ := EBox.cells HB1.out; have f4 := Blk.free HB1.out 4; have HQ1 := Lib.hid hq1)
        | (go_at_call 86; refine (HA.out _ (HQ1.out.setO (fun e => hgb e.symm) _)).mono ?_; rintro e w2 ⟨rfl, hm2⟩))
      refine ⟨rfl, ?_⟩
      rw [HN.out]
      exact ⟨rfl, ((hm.trans hm1).setO hg _).trans hm2⟩
    | some x =>
      obtain ⟨x, s''⟩ := x
      have HN : Hid (tailR 2 s = some ((⟨x.toArray⟩, vs), s'')) := Lib.hid (by simp [tailR, hv, ha])
      rw [ha] at HA
      clear hv ha
      go_enter Tryz.func89, Tryz.ntmps89
      go_wp2_with (first
        | (go_at_call 90; refine HV.out.mono ?_; rintro e w1 ⟨pv, rfl, hown1, hq1, hm1⟩; obtain ⟨pa, pc, hpv, -, -, -⟩ := own_form hown1; subst hpv; have HB1 := Lib.hid (Blk.moved HB.out hm1 hgb); obtain ⟨c0, c1, c2, c3, c4⟩ := EBox.cells HB1.out; have f4 := Blk.free HB1.out 4; have HQ1 := Lib.hid hq1; have HO1 := Lib.hid hown1; clear hq1 hown1)
        | (go_at_call 86; refine (HA.out _ (HQ1.out.setO (fun e => hgb e.symm) _)).mono ?_; rintro e w2 ⟨rfl, hq2, hm2⟩; have HB2 := Lib.hid (Blk.moved (EBox.set4 HB1.out (.slice pa vs.length pc)) hm2 hgb); obtain ⟨d0, d1, d2, d3, d4⟩ := EBox.cells HB2.out; have k3 := Blk.free HB2.out 3))
      go_returns
      rw [HN.out]
      refine ⟨_, rfl, EBox.set3 HB2.out _, ?_, hq2.setO (fun e => hgb e.symm) _, (((hm.trans hm1).setO hg _).trans hm2).setO hg _⟩
      have h1 := own_moved (Blk.own_set HB1.out (own_mono hm.size HO1.out) (by decide) 4 (.slice pa vs.length pc)) hm2 (own_far (Blk.own_set HB1.out (own_mono hm.size HO1.out) (by decide) 4 (.slice pa vs.length pc)) hb)
      exact Blk.own_set HB2.out h1 (by decide) 3 _

theorem tail3 : ReadsTail 92 3 := by
  intro w0 b g k c es s w hs hb hg hm hE hq hbx
  obtain ⟨l, m⟩ := s
  have HB := Lib.hid hbx
  have hV := values_any b (l, m) hs w hq hE
  have hgb : b ≠ g := by omega
  have q1 := hq.2.1
  simp only at q1
  have HQ := Lib.hid hq
  clear hbx hq
  cases m with
  | false =>
    have HN : Hid (tailR 3 (l, false) = some ((ByteArray.empty, []), (l, false))) := Lib.hid rfl
    clear hV
    go_enter Tryz.func92, Tryz.ntmps92
    go_wp2_with fail
    go_returns
    rw [HN.out]
    exact ⟨_, rfl, HB.out, World.ownsRow_nil _ _ _ _, HQ.out, hm⟩
  | true =>
    cases hv : valsS (l, true) with
    | none =>
      have HN : Hid (tailR 3 (l, true) = none) := Lib.hid (by simp [tailR, hv])
      rw [hv] at hV
      have HV := Lib.hid hV
      clear hV hv
      go_enter Tryz.func92, Tryz.ntmps92
      go_wp2_with (go_at_call 90; refine HV.out.mono ?_; rintro e w1 ⟨rfl, hm1⟩)
      refine ⟨rfl, ?_⟩
      rw [HN.out]
      exact ⟨rfl, hm.trans hm1⟩
    | some y =>
      obtain ⟨vs, s'⟩ := y
      have HN : Hid (tailR 3 (l, true) = some ((ByteArray.empty, vs), s')) := Lib.hid (by simp [tailR, hv])
      rw [hv] at hV
      have HV := Lib.hid hV
      clear hV hv
      go_enter Tryz.func92, Tryz.ntmps92
      go_wp2_with (go_at_call 90; refine HV.out.mono ?_; rintro e w1 ⟨pv, rfl, hown1, hq1, hm1⟩; obtain ⟨pa, pc, hpv, -, -, -⟩ := own_form hown1; subst hpv; have HB1 := Lib.hid (Blk.moved HB.out hm1 hgb); obtain ⟨c0, c1, c2, c3, c4⟩ := EBox.cells HB1.out; have f4 := Blk.free HB1.out 4; have HQ1 := Lib.hid hq1; have HO1 := Lib.hid hown1; clear hq1 hown1)
      go_returns
      rw [HN.out]
      exact ⟨_, rfl, EBox.set4 HB1.out _, Blk.own_set HB1.out (own_mono hm.size HO1.out) (by decide) 4 _, HQ1.out.setO (fun e => hgb e.symm) _, (hm.trans hm1).setO hg _⟩
end Go.Proofs.YtkkildkleleppaaGreatDoor
