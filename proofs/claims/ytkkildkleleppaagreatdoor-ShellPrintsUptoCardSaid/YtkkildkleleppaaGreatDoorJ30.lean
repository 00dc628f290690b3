/- The deferred closure of shell.Parse: what has been given up is caught. The document's sameness of commands. -/
import Derived.Test.YtkkildkleleppaaGreatDoorJ29
import Derived.Defers
import Derived.Recover
import Derived.Laws.Pointers
import Derived.Test.YtkkildkleleppaaGreatDoorJ16
namespace Go.Proofs.YtkkildkleleppaaGreatDoor
open Go.RowKit

theorem below_over {B g : Nat} {w w1 w2 : World} (h : Below B w w1) (h2 : Moved g w1 w2) (hg : B ≤ g) (hs : B ≤ w.heap.size) : Below B w w2 := below_moved h h2 hg (Nat.le_trans hs h.size)

theorem Blk.set12 {w : World} {p : Nat} {T : TypeId} {a0 a1 a2 a3 a4 a5 a6 a7 a8 a9 a10 a11 v0 v1 v2 v3 v4 v5 v6 v7 v8 v9 v10 v11 : Value} (h : Blk w p #[a0, a1, a2, a3, a4, a5, a6, a7, a8, a9, a10, a11] T) :
    Blk ((((((((((((w.setCell ⟨p, 0, none⟩ v0).setCell ⟨p, 1, none⟩ v1).setCell ⟨p, 2, none⟩ v2).setCell ⟨p, 3, none⟩ v3).setCell ⟨p, 4, none⟩ v4).setCell ⟨p, 5, none⟩ v5).setCell ⟨p, 6, none⟩ v6).setCell ⟨p, 7, none⟩ v7).setCell ⟨p, 8, none⟩ v8).setCell ⟨p, 9, none⟩ v9).setCell ⟨p, 10, none⟩ v10).setCell ⟨p, 11, none⟩ v11) p #[v0, v1, v2, v3, v4, v5, v6, v7, v8, v9, v10, v11] T := by
  have h0 : Blk _ p #[v0, a1, a2, a3, a4, a5, a6, a7, a8, a9, a10, a11] T := Blk.set h 0 v0
  have h1 : Blk _ p #[v0, v1, a2, a3, a4, a5, a6, a7, a8, a9, a10, a11] T := Blk.set h0 1 v1
  have h2 : Blk _ p #[v0, v1, v2, a3, a4, a5, a6, a7, a8, a9, a10, a11] T := Blk.set h1 2 v2
  have h3 : Blk _ p #[v0, v1, v2, v3, a4, a5, a6, a7, a8, a9, a10, a11] T := Blk.set h2 3 v3
  have h4 : Blk _ p #[v0, v1, v2, v3, v4, a5, a6, a7, a8, a9, a10, a11] T := Blk.set h3 4 v4
  have h5 : Blk _ p #[v0, v1, v2, v3, v4, v5, a6, a7, a8, a9, a10, a11] T := Blk.set h4 5 v5
  have h6 : Blk _ p #[v0, v1, v2, v3, v4, v5, v6, a7, a8, a9, a10, a11] T := Blk.set h5 6 v6
  have h7 : Blk _ p #[v0, v1, v2, v3, v4, v5, v6, v7, a8, a9, a10, a11] T := Blk.set h6 7 v7
  have h8 : Blk _ p #[v0, v1, v2, v3, v4, v5, v6, v7, v8, a9, a10, a11] T := Blk.set h7 8 v8
  have h9 : Blk _ p #[v0, v1, v2, v3, v4, v5, v6, v7, v8, v9, a10, a11] T := Blk.set h8 9 v9
  have h10 : Blk _ p #[v0, v1, v2, v3, v4, v5, v6, v7, v8, v9, v10, a11] T := Blk.set h9 10 v10
  have h11 : Blk _ p #[v0, v1, v2, v3, v4, v5, v6, v7, v8, v9, v10, v11] T := Blk.set h10 11 v11
  exact h11
theorem fin32 {W1 W12 w : World} {p q B : Nat} {x v : Value} (h12 : Moved p W1 W12) (hC : CBox W12 p) (hQ : Blk W1 q #[x] 23) (hb : Below w.heap.size w W1) (hpq : ¬ p = q) (hB : B ≤ p) (hB2 : B ≤ q) (hB3 : B ≤ w.heap.size) :
    CBox (W12.setCell ⟨q, 0, none⟩ v).drew p ∧ (W12.setCell ⟨q, 0, none⟩ v).cell? ⟨q, 0, none⟩ = some v ∧ Below B w (W12.setCell ⟨q, 0, none⟩ v).drew := by
  refine ⟨Blk.drew (Blk.setO hC hpq _), ?_, ?_⟩
  · exact Blk.cell (Blk.set (Blk.moved hQ h12 hpq) 0 v) 0
  · exact below_drew (below_over (below_over (hb.mono hB3) h12 hB hB3) (Moved.set q 0 _ _) hB2 hB3)
set_option maxRecDepth 100000 in
set_option maxHeartbeats 4000000 in
theorem catch32 (n : Int) (p q B : Nat) (x a0 a1 a2 a3 a4 a5 a6 a7 a8 a9 a10 a11 : Value) (w : World) (hp : Blk w p #[a0, a1, a2, a3, a4, a5, a6, a7, a8, a9, a10, a11] 47) (hq : Blk w q #[x] 23) (hpq : ¬ p = q) (hB : B ≤ p) (hB2 : B ≤ q) (hB3 : B ≤ w.heap.size) :
    CallsD Tryz.prog 43 #[.pointer (some ⟨p, 0, none⟩), .pointer (some ⟨q, 0, none⟩)] (.panicking (wrong32 n)) w fun e u' w' =>
      e = .returned (.tuple #[]) ∧ u' = .panicking [{ v := .iface 108 (.agg #[.int .i64 n]), recovered := true }] ∧ CBox w' p ∧ w'.cell? ⟨q, 0, none⟩ = some (.int .i64 n) ∧ Below B w w' := by
  have hpl := hp.lt
  have hql := hq.lt
  obtain ⟨W1, hW1⟩ : ∃ W1, w.alloc (.cells #[.int .i64 n] 108) = W1 := ⟨_, rfl⟩
  have HB1 : Hid (Below w.heap.size w W1) := Lib.hid (by rw [← hW1]; exact below_alloc _ _)
  have HP1 := Lib.hid (hp.below HB1.out)
  have HQ1 := Lib.hid (hq.below HB1.out)
  obtain ⟨r0, r1, r2, r3, r4, r5, r6, r7, r8, r9, r10, r11⟩ := Blk.c12 HP1.out
  have g0 := Blk.free HP1.out 0
  have g1 := Blk.free HP1.out 1
  have g2 := Blk.free HP1.out 2
  have g3 := Blk.free HP1.out 3
  have g4 := Blk.free HP1.out 4
  have g5 := Blk.free HP1.out 5
  have g6 := Blk.free HP1.out 6
  have g7 := Blk.free HP1.out 7
  have g8 := Blk.free HP1.out 8
  have g9 := Blk.free HP1.out 9
  have g10 := Blk.free HP1.out 10
  have g11 := Blk.free HP1.out 11
  have q0 : W1.cell? ⟨q, 0, none⟩ = some x := Blk.cell HQ1.out 0
  have q1 := Blk.free HQ1.out 0
  have n0 : W1.cell? ⟨w.heap.size, 0, none⟩ = some (.int .i64 n) := by rw [← hW1]; exact Blk.cell (Blk.new _ _ _) 0
  have hqp : ¬ q = p := fun e => hpq e.symm
  have hsp : ¬ p = w.heap.size := by omega
  have hsq : ¬ q = w.heap.size := by omega
  clear hp hq
  have hnot : ∀ (x : Bool) (w : World), (Op.unary .not (.bool x)).run Tryz.prog w = .ok (.bool (!x)) w := fun _ _ => rfl
  have hta : ∀ w : World, (Instr.typeAssert (.iface 108 (.agg #[.int .i64 n])) 20 108 true).run Tryz.prog w = .ok (.tuple #[.agg #[.int .i64 n], .bool true]) w := fun _ => by kernel_rfl
  refine callsD_of_wpS Tryz.func43 rfl fun c₀ cs hu => ?_
  apply wpS_seq
  apply wpS_region
  simp [wpOpsS, go_sem, recoverD, hu, Tryz.ntmps43, Exit.thenS, wrong32]
  refine wpS_of_wp ?_
  generalize hQ : (fun (e : Exit) (a' : Act) (w' : World) => bodyPostS _ _ _ _ _ e a' _ w') = Q
  have HQ := Lib.hid hQ
  clear hQ hu
  change Code.wp _ _ Q { tmps := #[.pointer (some ⟨p, 0, none⟩), .pointer (some ⟨q, 0, none⟩), .iface 108 (.agg #[.int .i64 n]), undef, undef, .iface 108 (.agg #[.int .i64 n]), undef, undef, undef, undef, undef, undef, undef, undef, undef, undef, undef, undef, undef], defers := [] } w
  go_wp2_with fail
  clear hW1
  go_region
  all_goals
    go_wp2
    rw [← HQ.out]
    simp [bodyPostS, results, Tryz.results43, go_sem]
    refine fin32 (W1 := W1) ?_ ?_ HQ1.out HB1.out hpq hB hB2 hB3
    · exact ((((((((((((Moved.set p 0 _ _).trans (Moved.set p 1 _ _)).trans (Moved.set p 2 _ _)).trans (Moved.set p 3 _ _)).trans (Moved.set p 4 _ _)).trans (Moved.set p 5 _ _)).trans (Moved.set p 6 _ _)).trans (Moved.set p 7 _ _)).trans (Moved.set p 8 _ _)).trans (Moved.set p 9 _ _)).trans (Moved.set p 10 _ _)).trans (Moved.set p 11 _ _))
    · exact Blk.set12 HP1.out
end Go.Proofs.YtkkildkleleppaaGreatDoor
namespace Go.Proofs.YtkkildkleleppaaGreatDoor
open Go.RowKit

theorem sameIs_self (a : List Int) : sameIs a a = true := by simp [sameIs]
theorem sameIs_len {a b : List Int} (h : a.length ≠ b.length) : sameIs a b = false := by
  simp only [sameIs, decide_eq_false_iff_not]
  rintro rfl
  exact h rfl
theorem sameIs_at {a b : List Int} {k : Nat} (h1 : k < a.length) (h2 : k < b.length) (h : a[k] ≠ b[k]) : sameIs a b = false := by
  simp only [sameIs, decide_eq_false_iff_not]
  rintro rfl
  exact h rfl
theorem sameIs_all {a b : List Int} (hl : a.length = b.length) (h : ∀ i (h1 : i < a.length) (h2 : i < b.length), a[i] = b[i]) : sameIs a b = true := by
  simp only [sameIs, decide_eq_true_eq]
  exact List.ext_getElem hl h

set_option maxRecDepth 100000 in
set_option maxHeartbeats 1000000 in
theorem rsameInts_any (a : Option Addr) (n c : Nat) (vs : List Int) (hn : n = vs.length) (a' : Option Addr) (n' c' : Nat) (us : List Int) (hn' : n' = us.length) (hl : n ≤ 100000000) (hl' : n' ≤ 100000000) (w : World) (h : IsIs w a vs) (h' : IsIs w a' us) :
    Calls Tryz.prog 52 #[.slice a n c, .slice a' n' c'] w (Ret w (.bool (sameIs vs us))) := by
  by_cases hne : n = n'
  · subst hne
    have HN := Lib.hid hn
    have HN' := Lib.hid hn'
    clear hn hn'
    go_enter Tryz.func52, Tryz.ntmps52
    go_wp2
    go_loopw [5] (fun i wr => ∃ k : Nat, k ≤ n ∧ i = .int .i64 k ∧ Below w.heap.size w wr ∧ Hid (∀ j, j < k → ∀ (h1 : j < vs.length) (h2 : j < us.length), vs[j] = us[j])) (fun i _ => n - (intOf i).toNat)
    case atStart => exact ⟨0, by omega, rfl, Below.refl _ _, Lib.hid (by intro j hj; omega)⟩
    case round =>
      obtain ⟨k, hk, rfl, hb, HA⟩ := hrel
      by_cases hlt : k < n
      · have hkv : k < vs.length := by have := HN.out; omega
        have hku : k < us.length := by have := HN'.out; omega
        obtain ⟨b, o, rfl, c0⟩ := (h.below hb).at_ hkv
        obtain ⟨b', o', rfl, d0⟩ := (h'.below hb).at_ hku
        generalize hv : vs[k] = v at c0
        generalize hu : us[k] = u at d0
        have HV := Lib.hid hv
        have HU := Lib.hid hu
        clear hv hu
        have i0 : (0 : Int) ≤ (k : Int) := Int.natCast_nonneg _
        have i1 : (k : Int) < (n : Int) := by omega
        by_cases hs : v = u
        · have HS : Hid (∀ j, j < k + 1 → ∀ (h1 : j < vs.length) (h2 : j < us.length), vs[j] = us[j]) := Lib.hid (by
            intro j hj h1 h2
            by_cases hjk : j < k
            · exact HA.out j hjk h1 h2
            · have : j = k := by omega
              subst this
              rw [HV.out, HU.out, hs])
          have hs1 : (v == u) = true := by simp [hs]
          have hs2 : (v != u) = false := by simp [hs]
          go_wp2_with fail
          go_quiet (fail)
          go_wp2
          go_roundw
          case rel => exact ⟨k + 1, by omega, by go_num, below_drewN hb _, HS⟩
          case measure => simp [intOf]; omega
        · have HS : Hid (sameIs vs us = false) := Lib.hid (sameIs_at hkv hku (by rw [HV.out, HU.out]; exact hs))
          have hs1 : (v == u) = false := by simp [hs]
          have hs2 : (v != u) = true := by simp [hs]
          go_wp2_with fail
          go_quiet (fail)
          go_wp2
          go_ret
          rw [HS.out]
          exact ⟨rfl, below_drewN hb _⟩
      · have HS : Hid (sameIs vs us = true) := Lib.hid (sameIs_all (by rw [← HN.out, ← HN'.out]) (fun i h1 h2 => HA.out i (by have := HN.out; omega) h1 h2))
        go_wp2
        go_ret
        rw [HS.out]
        exact ⟨rfl, hb⟩
  · have HS : Hid (sameIs vs us = false) := Lib.hid (sameIs_len (by rw [← hn, ← hn']; exact hne))
    have hi : ((n : Int) == (n' : Int)) = false := by simp; omega
    have hi2 : ((n : Int) != (n' : Int)) = true := by simp; omega
    clear hn hn'
    go_enter Tryz.func52, Tryz.ntmps52
    go_wp2
    go_ret
    rw [HS.out]
    exact ⟨rfl, Below.refl _ _⟩

/-- Lists that are short enough to be counted. -/
structure LenC (c : C) : Prop where
  ps : c.ps.length ≤ 100000000
  ch : c.ch.length ≤ 100000000
  tl : c.told.length ≤ 100000000
  tp : ∀ t ∈ c.told, t.ps.length ≤ 100000000

/-- What is shown of any world and places once is shown of the ones that an order of a region leaves. -/
theorem of_key {H M : World → Nat → Nat → Prop} {G : Prop} (use : (∀ W p q, H W p q → M W p q) → G) (prove : ∀ W p q, H W p q → M W p q) : G := use prove
theorem Blk.set9_ {w : World} {p : Nat} {T : TypeId} {a0 a1 a2 a3 a4 a5 a6 a7 a8 v0 v1 v2 v3 v4 v5 v6 v7 v8 : Value} (h0 : Blk w p #[a0, a1, a2, a3, a4, a5, a6, a7, a8] T) : Blk ((((((((((w).setCell ⟨p, 0, none⟩ (v0)).setCell ⟨p, 1, none⟩ (v1)).setCell ⟨p, 2, none⟩ (v2)).setCell ⟨p, 3, none⟩ (v3)).setCell ⟨p, 4, none⟩ (v4)).setCell ⟨p, 5, none⟩ (v5)).setCell ⟨p, 6, none⟩ (v6)).setCell ⟨p, 7, none⟩ (v7)).setCell ⟨p, 8, none⟩ (v8)) p #[v0, v1, v2, v3, v4, v5, v6, v7, v8] T := by
  have h1 : Blk _ p #[v0, a1, a2, a3, a4, a5, a6, a7, a8] T := Blk.set h0 0 v0
  have h2 : Blk _ p #[v0, v1, a2, a3, a4, a5, a6, a7, a8] T := Blk.set h1 1 v1
  have h3 : Blk _ p #[v0, v1, v2, a3, a4, a5, a6, a7, a8] T := Blk.set h2 2 v2
  have h4 : Blk _ p #[v0, v1, v2, v3, a4, a5, a6, a7, a8] T := Blk.set h3 3 v3
  have h5 : Blk _ p #[v0, v1, v2, v3, v4, a5, a6, a7, a8] T := Blk.set h4 4 v4
  have h6 : Blk _ p #[v0, v1, v2, v3, v4, v5, a6, a7, a8] T := Blk.set h5 5 v5
  have h7 : Blk _ p #[v0, v1, v2, v3, v4, v5, v6, a7, a8] T := Blk.set h6 6 v6
  have h8 : Blk _ p #[v0, v1, v2, v3, v4, v5, v6, v7, a8] T := Blk.set h7 7 v7
  have h9 : Blk _ p #[v0, v1, v2, v3, v4, v5, v6, v7, v8] T := Blk.set h8 8 v8
  exact h9
theorem Blk.set5_ {w : World} {p : Nat} {T : TypeId} {a0 a1 a2 a3 a4 v0 v1 v2 v3 v4 : Value} (h0 : Blk w p #[a0, a1, a2, a3, a4] T) : Blk ((((((w).setCell ⟨p, 0, none⟩ (v0)).setCell ⟨p, 1, none⟩ (v1)).setCell ⟨p, 2, none⟩ (v2)).setCell ⟨p, 3, none⟩ (v3)).setCell ⟨p, 4, none⟩ (v4)) p #[v0, v1, v2, v3, v4] T := by
  have h1 : Blk _ p #[v0, a1, a2, a3, a4] T := Blk.set h0 0 v0
  have h2 : Blk _ p #[v0, v1, a2, a3, a4] T := Blk.set h1 1 v1
  have h3 : Blk _ p #[v0, v1, v2, a3, a4] T := Blk.set h2 2 v2
  have h4 : Blk _ p #[v0, v1, v2, v3, a4] T := Blk.set h3 3 v3
  have h5 : Blk _ p #[v0, v1, v2, v3, v4] T := Blk.set h4 4 v4
  exact h5
theorem Blk.c9_ {w : World} {p : Nat} {T : TypeId} {a0 a1 a2 a3 a4 a5 a6 a7 a8 : Value} (h : Blk w p #[a0, a1, a2, a3, a4, a5, a6, a7, a8] T) : w.cell? ⟨p, 0, none⟩ = some a0 ∧ w.cell? ⟨p, 1, none⟩ = some a1 ∧ w.cell? ⟨p, 2, none⟩ = some a2 ∧ w.cell? ⟨p, 3, none⟩ = some a3 ∧ w.cell? ⟨p, 4, none⟩ = some a4 ∧ w.cell? ⟨p, 5, none⟩ = some a5 ∧ w.cell? ⟨p, 6, none⟩ = some a6 ∧ w.cell? ⟨p, 7, none⟩ = some a7 ∧ w.cell? ⟨p, 8, none⟩ = some a8 :=
  ⟨Blk.cell h 0, Blk.cell h 1, Blk.cell h 2, Blk.cell h 3, Blk.cell h 4, Blk.cell h 5, Blk.cell h 6, Blk.cell h 7, Blk.cell h 8⟩
theorem Blk.c5_ {w : World} {p : Nat} {T : TypeId} {a0 a1 a2 a3 a4 : Value} (h : Blk w p #[a0, a1, a2, a3, a4] T) : w.cell? ⟨p, 0, none⟩ = some a0 ∧ w.cell? ⟨p, 1, none⟩ = some a1 ∧ w.cell? ⟨p, 2, none⟩ = some a2 ∧ w.cell? ⟨p, 3, none⟩ = some a3 ∧ w.cell? ⟨p, 4, none⟩ = some a4 :=
  ⟨Blk.cell h 0, Blk.cell h 1, Blk.cell h 2, Blk.cell h 3, Blk.cell h 4⟩
theorem bthn {w w1 w2 : World} (h : Below w.heap.size w w1) (h2 : Below w1.heap.size w1 w2) : Below w.heap.size w w2 := h.trans (h2.mono h.size)
set_option maxRecDepth 100000 in
set_option maxHeartbeats 1000000 in
theorem rsame_any (u v : Value) (a b : C) (la : LenC a) (lb : LenC b) (w : World) (h : IsC w u a) (h' : IsC w v b) : Calls Tryz.prog 19 #[u, v] w (Ret w (.bool (sameC a b))) := by
  obtain ⟨pa, pc, ca, cc, ta, tc, rfl, -, -, -, h1, h2, h3⟩ := h
  obtain ⟨qa, qc, da, dc, sa, sc, rfl, -, -, -, k1, k2, k3⟩ := h'
  have HI := Lib.hid (fun w' hb => rsameInts_any ca a.ch.length cc a.ch rfl da b.ch.length dc b.ch rfl la.ch lb.ch w' (h2.below hb) (k2.below hb))
  have HT := Lib.hid (fun w' hb => Same_any ta a.told.length tc a.told rfl sa b.told.length sc b.told rfl la.tl lb.tl la.tp lb.tp w' (h3.below hb) (k3.below hb))
  have HP := Lib.hid (fun w' hb => SameRow_any pa a.ps.length pc a.ps rfl qa b.ps.length qc b.ps rfl la.ps lb.ps w' (h1.below hb) (k1.below hb))
  clear h1 h2 h3 k1 k2 k3 la lb
  obtain ⟨R, hR⟩ : ∃ R, sameC a b = R := ⟨_, rfl⟩
  rw [hR]
  obtain ⟨k, ak, ek, ec, es, sql, ps, n, lg, ch, cn, td⟩ := a
  obtain ⟨k', ak', ek', ec', es', sql', ps', n', lg', ch', cn', td'⟩ := b
  have HC : Hid (R = (k == k' && cn == cn' && ak == ak' && n == n' && lg == lg' && sameIs ch ch' && sameTs td td' && (ek == ek' && ec == ec' && es == es' && sql.data.toList == sql'.data.toList && sameVs ps ps'))) := Lib.hid hR.symm
  clear hR
  simp only [C.val, cmdV] at HI HT HP ⊢
  generalize sameIs ch ch' = bi at HI HC
  generalize sameTs td td' = bt at HT HC
  generalize sameVs ps ps' = bp at HP HC
  go_enter Tryz.func19, Tryz.ntmps19
  go_upto_region 1 with fail
  generalize hW0 : (w.alloc (Obj.cells #[.int .i64 k, .int .i64 ak, .int .i64 ek, .int .i64 ec, .int .i64 es, .string sql, .slice pa ps.length pc, .int .i64 n, .bool lg, .slice ca ch.length cc, .int .i64 cn, .slice ta td.length tc] 47)).alloc (Obj.cells #[.int .i64 k', .int .i64 ak', .int .i64 ek', .int .i64 ec', .int .i64 es', .string sql', .slice qa ps'.length qc, .int .i64 n', .bool lg', .slice da ch'.length dc, .int .i64 cn', .slice sa td'.length sc] 47) = W0
  have hs1 : (w.alloc (Obj.cells #[.int .i64 k, .int .i64 ak, .int .i64 ek, .int .i64 ec, .int .i64 es, .string sql, .slice pa ps.length pc, .int .i64 n, .bool lg, .slice ca ch.length cc, .int .i64 cn, .slice ta td.length tc] 47)).heap.size = w.heap.size + 1 := by simp
  have hA0 : Blk W0 w.heap.size #[.int .i64 k, .int .i64 ak, .int .i64 ek, .int .i64 ec, .int .i64 es, .string sql, .slice pa ps.length pc, .int .i64 n, .bool lg, .slice ca ch.length cc, .int .i64 cn, .slice ta td.length tc] 47 := by rw [← hW0]; exact Blk.alloc (Blk.new _ _ _) _
  have hB0 : Blk W0 (w.heap.size + 1) #[.int .i64 k', .int .i64 ak', .int .i64 ek', .int .i64 ec', .int .i64 es', .string sql', .slice qa ps'.length qc, .int .i64 n', .bool lg', .slice da ch'.length dc, .int .i64 cn', .slice sa td'.length sc] 47 := by rw [← hW0]; have := Blk.new (w.alloc (Obj.cells #[.int .i64 k, .int .i64 ak, .int .i64 ek, .int .i64 ec, .int .i64 es, .string sql, .slice pa ps.length pc, .int .i64 n, .bool lg, .slice ca ch.length cc, .int .i64 cn, .slice ta td.length tc] 47)) #[.int .i64 k', .int .i64 ak', .int .i64 ek', .int .i64 ec', .int .i64 es', .string sql', .slice qa ps'.length qc, .int .i64 n', .bool lg', .slice da ch'.length dc, .int .i64 cn', .slice sa td'.length sc] 47; rw [hs1] at this; exact this
  have hbw : Below w.heap.size w W0 := by rw [← hW0]; exact (below_alloc _ _).alloc (by simp) _
  clear hs1 hW0
  apply of_key (H := fun W p q => Below w.heap.size w W ∧ Blk W p #[.int .i64 ak, .int .i64 ek, .int .i64 ec, .int .i64 es, .string sql, .slice pa ps.length pc, .int .i64 n, .bool lg, .slice ca ch.length cc] 45 ∧ Blk W q #[.int .i64 ak', .int .i64 ek', .int .i64 ec', .int .i64 es', .string sql', .slice qa ps'.length qc, .int .i64 n', .bool lg', .slice da ch'.length dc] 45 ∧ Blk W w.heap.size #[.int .i64 k, .int .i64 ak, .int .i64 ek, .int .i64 ec, .int .i64 es, .string sql, .slice pa ps.length pc, .int .i64 n, .bool lg, .slice ca ch.length cc, .int .i64 cn, .slice ta td.length tc] 47 ∧ Blk W (w.heap.size + 1) #[.int .i64 k', .int .i64 ak', .int .i64 ek', .int .i64 ec', .int .i64 es', .string sql', .slice qa ps'.length qc, .int .i64 n', .bool lg', .slice da ch'.length dc, .int .i64 cn', .slice sa td'.length sc] 47 ∧ (w.heap.size ≤ p ∧ w.heap.size ≤ q))
  · intro key
    have hk := Lib.hid key
    clear key
    refine wp_region_held_drew (S := fun w' => Blk w' (w.heap.size) #[.int .i64 k, .int .i64 ak, .int .i64 ek, .int .i64 ec, .int .i64 es, .string sql, .slice pa ps.length pc, .int .i64 n, .bool lg, .slice ca ch.length cc, .int .i64 cn, .slice ta td.length tc] 47 ∧ Blk w' (w.heap.size + 1) #[.int .i64 k', .int .i64 ak', .int .i64 ek', .int .i64 ec', .int .i64 es', .string sql', .slice qa ps'.length qc, .int .i64 n', .bool lg', .slice da ch'.length dc, .int .i64 cn', .slice sa td'.length sc] 47) (by kernel_rfl) ⟨hA0, hB0⟩ (fun hHeld => ?_)
    (refine wpAnyH_take (i := 0) (v := (.pointer (some ⟨w.heap.size, 1, none⟩))) rfl (by kernel_rfl) (by kernel_rfl) (by kernel_rfl) (fun _ _ _ h => h) (Or.inl ⟨by rfl, by intro w hSw; obtain ⟨y0, y1, y2, y3, y4, y5, y6, y7, y8, y9, y10, y11⟩ := Blk.c12 hSw.1; obtain ⟨z0, z1, z2, z3, z4, z5, z6, z7, z8, z9, z10, z11⟩ := Blk.c12 hSw.2; clear hSw; go_simp; try with_reducible rfl⟩) (by assumption) ?_; simp only [List.getElem_toArray, List.getElem_cons_zero, Act.put, List.setIfInBounds_toArray, List.set_cons_succ, List.set_cons_zero])
    (refine wpAnyH_take (i := 1) (v := (.agg #[.int .i64 ak, .int .i64 ek, .int .i64 ec, .int .i64 es, .string sql, .slice pa ps.length pc, .int .i64 n, .bool lg, .slice ca ch.length cc])) rfl (by kernel_rfl) (by kernel_rfl) (by kernel_rfl) (fun _ _ _ h => h) (Or.inl ⟨by rfl, by intro w hSw; obtain ⟨y0, y1, y2, y3, y4, y5, y6, y7, y8, y9, y10, y11⟩ := Blk.c12 hSw.1; obtain ⟨z0, z1, z2, z3, z4, z5, z6, z7, z8, z9, z10, z11⟩ := Blk.c12 hSw.2; clear hSw; go_simp; try with_reducible rfl⟩) (by assumption) ?_; simp only [List.getElem_toArray, List.getElem_cons_succ, List.getElem_cons_zero, Act.put, List.setIfInBounds_toArray, List.set_cons_succ, List.set_cons_zero])
    (refine wpAnyH_take (i := 2) (v := (.pointer (some ⟨w.heap.size + 1, 1, none⟩))) rfl (by kernel_rfl) (by kernel_rfl) (by kernel_rfl) (fun _ _ _ h => h) (Or.inl ⟨by rfl, by intro w hSw; obtain ⟨y0, y1, y2, y3, y4, y5, y6, y7, y8, y9, y10, y11⟩ := Blk.c12 hSw.1; obtain ⟨z0, z1, z2, z3, z4, z5, z6, z7, z8, z9, z10, z11⟩ := Blk.c12 hSw.2; clear hSw; go_simp; try with_reducible rfl⟩) (by assumption) ?_; simp only [List.getElem_toArray, List.getElem_cons_succ, List.getElem_cons_zero, Act.put, List.setIfInBounds_toArray, List.set_cons_succ, List.set_cons_zero])
    (refine wpAnyH_take (i := 3) (v := (.agg #[.int .i64 ak', .int .i64 ek', .int .i64 ec', .int .i64 es', .string sql', .slice qa ps'.length qc, .int .i64 n', .bool lg', .slice da ch'.length dc])) rfl (by kernel_rfl) (by kernel_rfl) (by kernel_rfl) (fun _ _ _ h => h) (Or.inl ⟨by rfl, by intro w hSw; obtain ⟨y0, y1, y2, y3, y4, y5, y6, y7, y8, y9, y10, y11⟩ := Blk.c12 hSw.1; obtain ⟨z0, z1, z2, z3, z4, z5, z6, z7, z8, z9, z10, z11⟩ := Blk.c12 hSw.2; clear hSw; go_simp; try with_reducible rfl⟩) (by assumption) ?_; simp only [List.getElem_toArray, List.getElem_cons_succ, List.getElem_cons_zero, Act.put, List.setIfInBounds_toArray, List.set_cons_succ, List.set_cons_zero])
    clear hHeld
    have hp0 : w.heap.size < W0.heap.size := Blk.lt hA0
    have hp1 : w.heap.size + 1 < W0.heap.size := Blk.lt hB0
    have hz1 : (W0.alloc (Obj.cells #[.int .i64 0, .int .i64 0, .int .i64 0, .int .i64 0, .string ⟨#[]⟩, .slice none 0 0, .int .i64 0, .bool false, .slice none 0 0] 45)).heap.size = W0.heap.size + 1 := by simp
    have hA1 : Blk (W0.alloc (Obj.cells #[.int .i64 0, .int .i64 0, .int .i64 0, .int .i64 0, .string ⟨#[]⟩, .slice none 0 0, .int .i64 0, .bool false, .slice none 0 0] 45)).drew (w.heap.size) #[.int .i64 k, .int .i64 ak, .int .i64 ek, .int .i64 ec, .int .i64 es, .string sql, .slice pa ps.length pc, .int .i64 n, .bool lg, .slice ca ch.length cc, .int .i64 cn, .slice ta td.length tc] 47 := Blk.drew (Blk.alloc hA0 _)
    have hB1 : Blk (W0.alloc (Obj.cells #[.int .i64 0, .int .i64 0, .int .i64 0, .int .i64 0, .string ⟨#[]⟩, .slice none 0 0, .int .i64 0, .bool false, .slice none 0 0] 45)).drew (w.heap.size + 1) #[.int .i64 k', .int .i64 ak', .int .i64 ek', .int .i64 ec', .int .i64 es', .string sql', .slice qa ps'.length qc, .int .i64 n', .bool lg', .slice da ch'.length dc, .int .i64 cn', .slice sa td'.length sc] 47 := Blk.drew (Blk.alloc hB0 _)
    have hA2 : Blk ((W0.alloc (Obj.cells #[.int .i64 0, .int .i64 0, .int .i64 0, .int .i64 0, .string ⟨#[]⟩, .slice none 0 0, .int .i64 0, .bool false, .slice none 0 0] 45)).alloc (Obj.cells #[.int .i64 0, .int .i64 0, .int .i64 0, .int .i64 0, .string ⟨#[]⟩, .slice none 0 0, .int .i64 0, .bool false, .slice none 0 0] 45)).drew (w.heap.size) #[.int .i64 k, .int .i64 ak, .int .i64 ek, .int .i64 ec, .int .i64 es, .string sql, .slice pa ps.length pc, .int .i64 n, .bool lg, .slice ca ch.length cc, .int .i64 cn, .slice ta td.length tc] 47 := Blk.drew (Blk.alloc (Blk.alloc hA0 _) _)
    have hB2 : Blk ((W0.alloc (Obj.cells #[.int .i64 0, .int .i64 0, .int .i64 0, .int .i64 0, .string ⟨#[]⟩, .slice none 0 0, .int .i64 0, .bool false, .slice none 0 0] 45)).alloc (Obj.cells #[.int .i64 0, .int .i64 0, .int .i64 0, .int .i64 0, .string ⟨#[]⟩, .slice none 0 0, .int .i64 0, .bool false, .slice none 0 0] 45)).drew (w.heap.size + 1) #[.int .i64 k', .int .i64 ak', .int .i64 ek', .int .i64 ec', .int .i64 es', .string sql', .slice qa ps'.length qc, .int .i64 n', .bool lg', .slice da ch'.length dc, .int .i64 cn', .slice sa td'.length sc] 47 := Blk.drew (Blk.alloc (Blk.alloc hB0 _) _)
    have hP2 : Blk ((W0.alloc (Obj.cells #[.int .i64 0, .int .i64 0, .int .i64 0, .int .i64 0, .string ⟨#[]⟩, .slice none 0 0, .int .i64 0, .bool false, .slice none 0 0] 45)).alloc (Obj.cells #[.int .i64 0, .int .i64 0, .int .i64 0, .int .i64 0, .string ⟨#[]⟩, .slice none 0 0, .int .i64 0, .bool false, .slice none 0 0] 45)).drew W0.heap.size #[.int .i64 0, .int .i64 0, .int .i64 0, .int .i64 0, .string ⟨#[]⟩, .slice none 0 0, .int .i64 0, .bool false, .slice none 0 0] 45 := Blk.drew (Blk.alloc (Blk.new _ _ _) _)
    have hQ2 : Blk ((W0.alloc (Obj.cells #[.int .i64 0, .int .i64 0, .int .i64 0, .int .i64 0, .string ⟨#[]⟩, .slice none 0 0, .int .i64 0, .bool false, .slice none 0 0] 45)).alloc (Obj.cells #[.int .i64 0, .int .i64 0, .int .i64 0, .int .i64 0, .string ⟨#[]⟩, .slice none 0 0, .int .i64 0, .bool false, .slice none 0 0] 45)).drew (W0.heap.size + 1) #[.int .i64 0, .int .i64 0, .int .i64 0, .int .i64 0, .string ⟨#[]⟩, .slice none 0 0, .int .i64 0, .bool false, .slice none 0 0] 45 := by have h := Blk.new (W0.alloc (Obj.cells #[.int .i64 0, .int .i64 0, .int .i64 0, .int .i64 0, .string ⟨#[]⟩, .slice none 0 0, .int .i64 0, .bool false, .slice none 0 0] 45)) #[.int .i64 0, .int .i64 0, .int .i64 0, .int .i64 0, .string ⟨#[]⟩, .slice none 0 0, .int .i64 0, .bool false, .slice none 0 0] 45; rw [hz1] at h; exact Blk.drew h
    have hb2 : Below w.heap.size w ((W0.alloc (Obj.cells #[.int .i64 0, .int .i64 0, .int .i64 0, .int .i64 0, .string ⟨#[]⟩, .slice none 0 0, .int .i64 0, .bool false, .slice none 0 0] 45)).alloc (Obj.cells #[.int .i64 0, .int .i64 0, .int .i64 0, .int .i64 0, .string ⟨#[]⟩, .slice none 0 0, .int .i64 0, .bool false, .slice none 0 0] 45)).drew := below_drew ((hbw.alloc hbw.size _).alloc (by have := hbw.size; simp; omega) _)
    clear hz1
    refine wpAnyH_ready (rs := [4, 5]) (by kernel_rfl) (by simp) (AllReadyH.cons rfl (fun K' hK => ?_) (AllReadyH.cons rfl (fun K' hK => ?_) AllReadyH.nil))
    · go_simp
      refine hK.out _ _ ⟨hA1, hB1⟩ (fun _ => ?_)
      clear hK K'
      refine wpAnyH_ready (rs := [5]) (by kernel_rfl) (by simp) (AllReadyH.cons rfl (fun K' hK => ?_) AllReadyH.nil)
      go_simp
      generalize hW2 : ((W0.alloc (Obj.cells #[.int .i64 0, .int .i64 0, .int .i64 0, .int .i64 0, .string ⟨#[]⟩, .slice none 0 0, .int .i64 0, .bool false, .slice none 0 0] 45)).alloc (Obj.cells #[.int .i64 0, .int .i64 0, .int .i64 0, .int .i64 0, .string ⟨#[]⟩, .slice none 0 0, .int .i64 0, .bool false, .slice none 0 0] 45)).drew = W2 at hA2 hB2 hP2 hQ2 hb2 ⊢
      refine hK.out _ _ ⟨hA2, hB2⟩ (fun _ => ?_)
      clear hK K' hW2 hA1 hB1
      have f0 := Blk.free hP2 0
      have f1 := Blk.free hP2 1
      have f2 := Blk.free hP2 2
      have f3 := Blk.free hP2 3
      have f4 := Blk.free hP2 4
      have f5 := Blk.free hP2 5
      have f6 := Blk.free hP2 6
      have f7 := Blk.free hP2 7
      have f8 := Blk.free hP2 8
      obtain ⟨e0, e1, e2, e3, e4, e5, e6, e7, e8⟩ := Blk.c9_ hP2
      refine wpAnyH_ready (rs := [6]) (by kernel_rfl) (by simp) (AllReadyH.cons rfl (fun K' hK => ?_) AllReadyH.nil)
      go_simp
      generalize hW3 : (((((((((W2).setCell ⟨W0.heap.size, 0, none⟩ (.int .i64 ak)).setCell ⟨W0.heap.size, 1, none⟩ (.int .i64 ek)).setCell ⟨W0.heap.size, 2, none⟩ (.int .i64 ec)).setCell ⟨W0.heap.size, 3, none⟩ (.int .i64 es)).setCell ⟨W0.heap.size, 4, none⟩ (.string sql)).setCell ⟨W0.heap.size, 5, none⟩ (.slice pa ps.length pc)).setCell ⟨W0.heap.size, 6, none⟩ (.int .i64 n)).setCell ⟨W0.heap.size, 7, none⟩ (.bool lg)).setCell ⟨W0.heap.size, 8, none⟩ (.slice ca ch.length cc) = W3
      have hm3 : Moved (W0.heap.size) W2 W3 := by rw [← hW3]; exact (((((((((Moved.set (W0.heap.size) 0 _ _).trans (Moved.set (W0.heap.size) 1 _ _)).trans (Moved.set (W0.heap.size) 2 _ _)).trans (Moved.set (W0.heap.size) 3 _ _)).trans (Moved.set (W0.heap.size) 4 _ _)).trans (Moved.set (W0.heap.size) 5 _ _)).trans (Moved.set (W0.heap.size) 6 _ _)).trans (Moved.set (W0.heap.size) 7 _ _)).trans (Moved.set (W0.heap.size) 8 _ _))
      have hP3 : Blk W3 (W0.heap.size) #[.int .i64 ak, .int .i64 ek, .int .i64 ec, .int .i64 es, .string sql, .slice pa ps.length pc, .int .i64 n, .bool lg, .slice ca ch.length cc] 45 := by rw [← hW3]; exact Blk.set9_ hP2
      have hQ3 : Blk W3 (W0.heap.size + 1) #[.int .i64 0, .int .i64 0, .int .i64 0, .int .i64 0, .string ⟨#[]⟩, .slice none 0 0, .int .i64 0, .bool false, .slice none 0 0] 45 := Blk.moved hQ2 hm3 (by omega)
      have hA3 := Blk.moved hA2 hm3 (by omega)
      have hB3 := Blk.moved hB2 hm3 (by omega)
      have hb3 : Below w.heap.size w W3 := below_over hb2 hm3 (by have := hp0; have := hp1; omega) (Nat.le_refl _)
      refine hK.out _ _ ⟨hA3, hB3⟩ (fun _ => ?_)
      clear hK K' hW3 hm3 hA2 hB2 hP2 hQ2 hb2 f0 e0 f1 e1 f2 e2 f3 e3 f4 e4 f5 e5 f6 e6 f7 e7 f8 e8
      have f0 := Blk.free hQ3 0
      have f1 := Blk.free hQ3 1
      have f2 := Blk.free hQ3 2
      have f3 := Blk.free hQ3 3
      have f4 := Blk.free hQ3 4
      have f5 := Blk.free hQ3 5
      have f6 := Blk.free hQ3 6
      have f7 := Blk.free hQ3 7
      have f8 := Blk.free hQ3 8
      obtain ⟨e0, e1, e2, e3, e4, e5, e6, e7, e8⟩ := Blk.c9_ hQ3
      refine wpAnyH_ready (rs := [7]) (by kernel_rfl) (by simp) (AllReadyH.cons rfl (fun K' hK => ?_) AllReadyH.nil)
      go_simp
      generalize hW4 : (((((((((W3).setCell ⟨W0.heap.size + 1, 0, none⟩ (.int .i64 ak')).setCell ⟨W0.heap.size + 1, 1, none⟩ (.int .i64 ek')).setCell ⟨W0.heap.size + 1, 2, none⟩ (.int .i64 ec')).setCell ⟨W0.heap.size + 1, 3, none⟩ (.int .i64 es')).setCell ⟨W0.heap.size + 1, 4, none⟩ (.string sql')).setCell ⟨W0.heap.size + 1, 5, none⟩ (.slice qa ps'.length qc)).setCell ⟨W0.heap.size + 1, 6, none⟩ (.int .i64 n')).setCell ⟨W0.heap.size + 1, 7, none⟩ (.bool lg')).setCell ⟨W0.heap.size + 1, 8, none⟩ (.slice da ch'.length dc) = W4
      have hm4 : Moved (W0.heap.size + 1) W3 W4 := by rw [← hW4]; exact (((((((((Moved.set (W0.heap.size + 1) 0 _ _).trans (Moved.set (W0.heap.size + 1) 1 _ _)).trans (Moved.set (W0.heap.size + 1) 2 _ _)).trans (Moved.set (W0.heap.size + 1) 3 _ _)).trans (Moved.set (W0.heap.size + 1) 4 _ _)).trans (Moved.set (W0.heap.size + 1) 5 _ _)).trans (Moved.set (W0.heap.size + 1) 6 _ _)).trans (Moved.set (W0.heap.size + 1) 7 _ _)).trans (Moved.set (W0.heap.size + 1) 8 _ _))
      have hQ4 : Blk W4 (W0.heap.size + 1) #[.int .i64 ak', .int .i64 ek', .int .i64 ec', .int .i64 es', .string sql', .slice qa ps'.length qc, .int .i64 n', .bool lg', .slice da ch'.length dc] 45 := by rw [← hW4]; exact Blk.set9_ hQ3
      have hP4 : Blk W4 (W0.heap.size) #[.int .i64 ak, .int .i64 ek, .int .i64 ec, .int .i64 es, .string sql, .slice pa ps.length pc, .int .i64 n, .bool lg, .slice ca ch.length cc] 45 := Blk.moved hP3 hm4 (by omega)
      have hA4 := Blk.moved hA3 hm4 (by omega)
      have hB4 := Blk.moved hB3 hm4 (by omega)
      have hb4 : Below w.heap.size w W4 := below_over hb3 hm4 (by have := hp0; have := hp1; omega) (Nat.le_refl _)
      refine hK.out _ _ ⟨hA4, hB4⟩ (fun _ => ?_)
      clear hK K' hW4 hm4 hA3 hB3 hP3 hQ3 hb3 f0 e0 f1 e1 f2 e2 f3 e3 f4 e4 f5 e5 f6 e6 f7 e7 f8 e8
      refine wpAnyH_done (by kernel_rfl) ?_ _
      have hpp : w.heap.size ≤ W0.heap.size := by omega
      have hqq : w.heap.size ≤ W0.heap.size + 1 := by omega
      generalize W0.heap.size + 1 = q at hQ4 hqq ⊢
      generalize W0.heap.size = p at hP4 hpp ⊢
      exact hk.out W4 p q ⟨hb4, hP4, hQ4, hA4, hB4, hpp, hqq⟩
    · go_simp
      refine hK.out _ _ ⟨hA1, hB1⟩ (fun _ => ?_)
      clear hK K'
      refine wpAnyH_ready (rs := [4]) (by kernel_rfl) (by simp) (AllReadyH.cons rfl (fun K' hK => ?_) AllReadyH.nil)
      go_simp
      generalize hW2 : ((W0.alloc (Obj.cells #[.int .i64 0, .int .i64 0, .int .i64 0, .int .i64 0, .string ⟨#[]⟩, .slice none 0 0, .int .i64 0, .bool false, .slice none 0 0] 45)).alloc (Obj.cells #[.int .i64 0, .int .i64 0, .int .i64 0, .int .i64 0, .string ⟨#[]⟩, .slice none 0 0, .int .i64 0, .bool false, .slice none 0 0] 45)).drew = W2 at hA2 hB2 hP2 hQ2 hb2 ⊢
      refine hK.out _ _ ⟨hA2, hB2⟩ (fun _ => ?_)
      clear hK K' hW2 hA1 hB1
      have f0 := Blk.free hQ2 0
      have f1 := Blk.free hQ2 1
      have f2 := Blk.free hQ2 2
      have f3 := Blk.free hQ2 3
      have f4 := Blk.free hQ2 4
      have f5 := Blk.free hQ2 5
      have f6 := Blk.free hQ2 6
      have f7 := Blk.free hQ2 7
      have f8 := Blk.free hQ2 8
      obtain ⟨e0, e1, e2, e3, e4, e5, e6, e7, e8⟩ := Blk.c9_ hQ2
      refine wpAnyH_ready (rs := [6]) (by kernel_rfl) (by simp) (AllReadyH.cons rfl (fun K' hK => ?_) AllReadyH.nil)
      go_simp
      generalize hW3 : (((((((((W2).setCell ⟨W0.heap.size + 1, 0, none⟩ (.int .i64 ak)).setCell ⟨W0.heap.size + 1, 1, none⟩ (.int .i64 ek)).setCell ⟨W0.heap.size + 1, 2, none⟩ (.int .i64 ec)).setCell ⟨W0.heap.size + 1, 3, none⟩ (.int .i64 es)).setCell ⟨W0.heap.size + 1, 4, none⟩ (.string sql)).setCell ⟨W0.heap.size + 1, 5, none⟩ (.slice pa ps.length pc)).setCell ⟨W0.heap.size + 1, 6, none⟩ (.int .i64 n)).setCell ⟨W0.heap.size + 1, 7, none⟩ (.bool lg)).setCell ⟨W0.heap.size + 1, 8, none⟩ (.slice ca ch.length cc) = W3
      have hm3 : Moved (W0.heap.size + 1) W2 W3 := by rw [← hW3]; exact (((((((((Moved.set (W0.heap.size + 1) 0 _ _).trans (Moved.set (W0.heap.size + 1) 1 _ _)).trans (Moved.set (W0.heap.size + 1) 2 _ _)).trans (Moved.set (W0.heap.size + 1) 3 _ _)).trans (Moved.set (W0.heap.size + 1) 4 _ _)).trans (Moved.set (W0.heap.size + 1) 5 _ _)).trans (Moved.set (W0.heap.size + 1) 6 _ _)).trans (Moved.set (W0.heap.size + 1) 7 _ _)).trans (Moved.set (W0.heap.size + 1) 8 _ _))
      have hP3 : Blk W3 (W0.heap.size + 1) #[.int .i64 ak, .int .i64 ek, .int .i64 ec, .int .i64 es, .string sql, .slice pa ps.length pc, .int .i64 n, .bool lg, .slice ca ch.length cc] 45 := by rw [← hW3]; exact Blk.set9_ hQ2
      have hQ3 : Blk W3 (W0.heap.size) #[.int .i64 0, .int .i64 0, .int .i64 0, .int .i64 0, .string ⟨#[]⟩, .slice none 0 0, .int .i64 0, .bool false, .slice none 0 0] 45 := Blk.moved hP2 hm3 (by omega)
      have hA3 := Blk.moved hA2 hm3 (by omega)
      have hB3 := Blk.moved hB2 hm3 (by omega)
      have hb3 : Below w.heap.size w W3 := below_over hb2 hm3 (by have := hp0; have := hp1; omega) (Nat.le_refl _)
      refine hK.out _ _ ⟨hA3, hB3⟩ (fun _ => ?_)
      clear hK K' hW3 hm3 hA2 hB2 hP2 hQ2 hb2 f0 e0 f1 e1 f2 e2 f3 e3 f4 e4 f5 e5 f6 e6 f7 e7 f8 e8
      have f0 := Blk.free hQ3 0
      have f1 := Blk.free hQ3 1
      have f2 := Blk.free hQ3 2
      have f3 := Blk.free hQ3 3
      have f4 := Blk.free hQ3 4
      have f5 := Blk.free hQ3 5
      have f6 := Blk.free hQ3 6
      have f7 := Blk.free hQ3 7
      have f8 := Blk.free hQ3 8
      obtain ⟨e0, e1, e2, e3, e4, e5, e6, e7, e8⟩ := Blk.c9_ hQ3
      refine wpAnyH_ready (rs := [7]) (by kernel_rfl) (by simp) (AllReadyH.cons rfl (fun K' hK => ?_) AllReadyH.nil)
      go_simp
      generalize hW4 : (((((((((W3).setCell ⟨W0.heap.size, 0, none⟩ (.int .i64 ak')).setCell ⟨W0.heap.size, 1, none⟩ (.int .i64 ek')).setCell ⟨W0.heap.size, 2, none⟩ (.int .i64 ec')).setCell ⟨W0.heap.size, 3, none⟩ (.int .i64 es')).setCell ⟨W0.heap.size, 4, none⟩ (.string sql')).setCell ⟨W0.heap.size, 5, none⟩ (.slice qa ps'.length qc)).setCell ⟨W0.heap.size, 6, none⟩ (.int .i64 n')).setCell ⟨W0.heap.size, 7, none⟩ (.bool lg')).setCell ⟨W0.heap.size, 8, none⟩ (.slice da ch'.length dc) = W4
      have hm4 : Moved (W0.heap.size) W3 W4 := by rw [← hW4]; exact (((((((((Moved.set (W0.heap.size) 0 _ _).trans (Moved.set (W0.heap.size) 1 _ _)).trans (Moved.set (W0.heap.size) 2 _ _)).trans (Moved.set (W0.heap.size) 3 _ _)).trans (Moved.set (W0.heap.size) 4 _ _)).trans (Moved.set (W0.heap.size) 5 _ _)).trans (Moved.set (W0.heap.size) 6 _ _)).trans (Moved.set (W0.heap.size) 7 _ _)).trans (Moved.set (W0.heap.size) 8 _ _))
      have hQ4 : Blk W4 (W0.heap.size) #[.int .i64 ak', .int .i64 ek', .int .i64 ec', .int .i64 es', .string sql', .slice qa ps'.length qc, .int .i64 n', .bool lg', .slice da ch'.length dc] 45 := by rw [← hW4]; exact Blk.set9_ hQ3
      have hP4 : Blk W4 (W0.heap.size + 1) #[.int .i64 ak, .int .i64 ek, .int .i64 ec, .int .i64 es, .string sql, .slice pa ps.length pc, .int .i64 n, .bool lg, .slice ca ch.length cc] 45 := Blk.moved hP3 hm4 (by omega)
      have hA4 := Blk.moved hA3 hm4 (by omega)
      have hB4 := Blk.moved hB3 hm4 (by omega)
      have hb4 : Below w.heap.size w W4 := below_over hb3 hm4 (by have := hp0; have := hp1; omega) (Nat.le_refl _)
      refine hK.out _ _ ⟨hA4, hB4⟩ (fun _ => ?_)
      clear hK K' hW4 hm4 hA3 hB3 hP3 hQ3 hb3 f0 e0 f1 e1 f2 e2 f3 e3 f4 e4 f5 e5 f6 e6 f7 e7 f8 e8
      refine wpAnyH_done (by kernel_rfl) ?_ _
      have hpp : w.heap.size ≤ W0.heap.size + 1 := by omega
      have hqq : w.heap.size ≤ W0.heap.size := by omega
      generalize W0.heap.size + 1 = p at hP4 hpp ⊢
      generalize W0.heap.size = q at hQ4 hqq ⊢
      exact hk.out W4 p q ⟨hb4, hP4, hQ4, hA4, hB4, hpp, hqq⟩
  · intro W p q hH
    obtain ⟨hbw, hP, hQ, hA, hB, hpq⟩ := hH
    have HBw := Lib.hid hbw
    have HPQ := Lib.hid (And.intro hP hQ)
    have HPw : Hid (w.heap.size ≤ p ∧ w.heap.size ≤ q) := Lib.hid hpq
    obtain ⟨a0, -, -, -, -, -, -, -, -, -, a10, a11⟩ := Blk.c12 hA
    obtain ⟨b0, -, -, -, -, -, -, -, -, -, b10, b11⟩ := Blk.c12 hB
    obtain ⟨p0, -, -, -, -, -, p6, p7, p8⟩ := Blk.c9_ hP
    obtain ⟨q0, -, -, -, -, -, q6, q7, q8⟩ := Blk.c9_ hQ
    clear hbw hP hQ hA hB
    by_cases hq : k = k'
    rotate_left
    · have HX : Hid (R = false) := Lib.hid (by rw [HC.out]; simp [hq])
      have hq1 : (k == k') = false := by simp [hq]
      have hq2 : (k != k') = true := by simp [hq]
      clear HC
      go_wp2_with (first
        | (go_at_call 52; refine (HI.out _ HBw.out).mono ?_; rintro e w1 ⟨rfl, hb1⟩; have HB1 := Lib.hid (bthn HBw.out hb1); have a11 := (hb1.cell (lt_of_cell a11)).trans a11; have b11 := (hb1.cell (lt_of_cell b11)).trans b11)
        | (go_at_call 15; refine (HT.out _ HB1.out).mono ?_; rintro e w2 ⟨rfl, hb2⟩; have HB2 := Lib.hid (bthn HB1.out hb2)))
      go_ret
      rw [HX.out]
      first
        | exact ⟨rfl, HB2.out⟩
        | exact ⟨rfl, HB1.out⟩
        | exact ⟨rfl, HBw.out⟩
    subst hq
    by_cases hq : cn = cn'
    rotate_left
    · have HX : Hid (R = false) := Lib.hid (by rw [HC.out]; simp [hq])
      have hq1 : (cn == cn') = false := by simp [hq]
      have hq2 : (cn != cn') = true := by simp [hq]
      clear HC
      go_wp2_with (first
        | (go_at_call 52; refine (HI.out _ HBw.out).mono ?_; rintro e w1 ⟨rfl, hb1⟩; have HB1 := Lib.hid (bthn HBw.out hb1); have a11 := (hb1.cell (lt_of_cell a11)).trans a11; have b11 := (hb1.cell (lt_of_cell b11)).trans b11)
        | (go_at_call 15; refine (HT.out _ HB1.out).mono ?_; rintro e w2 ⟨rfl, hb2⟩; have HB2 := Lib.hid (bthn HB1.out hb2)))
      go_ret
      rw [HX.out]
      first
        | exact ⟨rfl, HB2.out⟩
        | exact ⟨rfl, HB1.out⟩
        | exact ⟨rfl, HBw.out⟩
    subst hq
    by_cases hq : ak = ak'
    rotate_left
    · have HX : Hid (R = false) := Lib.hid (by rw [HC.out]; simp [hq])
      have hq1 : (ak == ak') = false := by simp [hq]
      have hq2 : (ak != ak') = true := by simp [hq]
      clear HC
      go_wp2_with (first
        | (go_at_call 52; refine (HI.out _ HBw.out).mono ?_; rintro e w1 ⟨rfl, hb1⟩; have HB1 := Lib.hid (bthn HBw.out hb1); have a11 := (hb1.cell (lt_of_cell a11)).trans a11; have b11 := (hb1.cell (lt_of_cell b11)).trans b11)
        | (go_at_call 15; refine (HT.out _ HB1.out).mono ?_; rintro e w2 ⟨rfl, hb2⟩; have HB2 := Lib.hid (bthn HB1.out hb2)))
      go_ret
      rw [HX.out]
      first
        | exact ⟨rfl, HB2.out⟩
        | exact ⟨rfl, HB1.out⟩
        | exact ⟨rfl, HBw.out⟩
    subst hq
    by_cases hq : n = n'
    rotate_left
    · have HX : Hid (R = false) := Lib.hid (by rw [HC.out]; simp [hq])
      have hq1 : (n == n') = false := by simp [hq]
      have hq2 : (n != n') = true := by simp [hq]
      clear HC
      go_wp2_with (first
        | (go_at_call 52; refine (HI.out _ HBw.out).mono ?_; rintro e w1 ⟨rfl, hb1⟩; have HB1 := Lib.hid (bthn HBw.out hb1); have a11 := (hb1.cell (lt_of_cell a11)).trans a11; have b11 := (hb1.cell (lt_of_cell b11)).trans b11)
        | (go_at_call 15; refine (HT.out _ HB1.out).mono ?_; rintro e w2 ⟨rfl, hb2⟩; have HB2 := Lib.hid (bthn HB1.out hb2)))
      go_ret
      rw [HX.out]
      first
        | exact ⟨rfl, HB2.out⟩
        | exact ⟨rfl, HB1.out⟩
        | exact ⟨rfl, HBw.out⟩
    subst hq
    by_cases hq : lg = lg'
    rotate_left
    · have HX : Hid (R = false) := Lib.hid (by rw [HC.out]; simp [hq])
      have hq1 : (lg == lg') = false := by simp [hq]
      have hq2 : (lg != lg') = true := by simp [hq]
      clear HC
      go_wp2_with (first
        | (go_at_call 52; refine (HI.out _ HBw.out).mono ?_; rintro e w1 ⟨rfl, hb1⟩; have HB1 := Lib.hid (bthn HBw.out hb1); have a11 := (hb1.cell (lt_of_cell a11)).trans a11; have b11 := (hb1.cell (lt_of_cell b11)).trans b11)
        | (go_at_call 15; refine (HT.out _ HB1.out).mono ?_; rintro e w2 ⟨rfl, hb2⟩; have HB2 := Lib.hid (bthn HB1.out hb2)))
      go_ret
      rw [HX.out]
      first
        | exact ⟨rfl, HB2.out⟩
        | exact ⟨rfl, HB1.out⟩
        | exact ⟨rfl, HBw.out⟩
    subst hq
    cases bi with
    | false =>
      have HX : Hid (R = false) := Lib.hid (by rw [HC.out]; simp)
      go_wp2_with (first
        | (go_at_call 52; refine (HI.out _ HBw.out).mono ?_; rintro e w1 ⟨rfl, hb1⟩; have HB1 := Lib.hid (bthn HBw.out hb1); have a11 := (hb1.cell (lt_of_cell a11)).trans a11; have b11 := (hb1.cell (lt_of_cell b11)).trans b11)
        | (go_at_call 15; refine (HT.out _ HB1.out).mono ?_; rintro e w2 ⟨rfl, hb2⟩; have HB2 := Lib.hid (bthn HB1.out hb2)))
      go_ret
      rw [HX.out]
      first
        | exact ⟨rfl, HB2.out⟩
        | exact ⟨rfl, HB1.out⟩
        | exact ⟨rfl, HBw.out⟩
    | true =>
      cases bt with
      | false =>
        have HX : Hid (R = false) := Lib.hid (by rw [HC.out]; simp)
        go_wp2_with (first
          | (go_at_call 52; refine (HI.out _ HBw.out).mono ?_; rintro e w1 ⟨rfl, hb1⟩; have HB1 := Lib.hid (bthn HBw.out hb1); have a11 := (hb1.cell (lt_of_cell a11)).trans a11; have b11 := (hb1.cell (lt_of_cell b11)).trans b11)
          | (go_at_call 15; refine (HT.out _ HB1.out).mono ?_; rintro e w2 ⟨rfl, hb2⟩; have HB2 := Lib.hid (bthn HB1.out hb2)))
        go_ret
        rw [HX.out]
        first
          | exact ⟨rfl, HB2.out⟩
          | exact ⟨rfl, HB1.out⟩
          | exact ⟨rfl, HBw.out⟩
      | true =>
        have HC2 : Hid (R = (ek == ek' && ec == ec' && es == es' && sql.data.toList == sql'.data.toList && bp)) := Lib.hid (by rw [HC.out]; simp)
        clear HC
        go_upto_region 4 with (first
          | (go_at_call 52; refine (HI.out _ HBw.out).mono ?_; rintro e w1 ⟨rfl, hb1⟩; have HB1 := Lib.hid (bthn HBw.out hb1); have a11 := (hb1.cell (lt_of_cell a11)).trans a11; have b11 := (hb1.cell (lt_of_cell b11)).trans b11)
          | (go_at_call 15; refine (HT.out _ HB1.out).mono ?_; rintro e w2 ⟨rfl, hb2⟩; have HB2 := Lib.hid (bthn HB1.out hb2)))
        have hA0 : Blk w2 p #[.int .i64 ak, .int .i64 ek, .int .i64 ec, .int .i64 es, .string sql, .slice pa ps.length pc, .int .i64 n, .bool lg, .slice ca ch.length cc] 45 := Blk.below (Blk.below HPQ.out.1 hb1) hb2
        have hB0 : Blk w2 q #[.int .i64 ak, .int .i64 ek', .int .i64 ec', .int .i64 es', .string sql', .slice qa ps'.length qc, .int .i64 n, .bool lg, .slice da ch'.length dc] 45 := Blk.below (Blk.below HPQ.out.2 hb1) hb2
        have hbw : Below w.heap.size w w2 := HB2.out
        clear a0 a10 a11 b0 b10 b11 p0 p6 p7 p8 q0 q6 q7 q8 hb1 hb2 HB1 HB2 HPQ HBw
        generalize w2 = W0 at hA0 hB0 hbw ⊢
        apply of_key (H := fun W p q => Below w.heap.size w W ∧ Blk W p #[.int .i64 ek, .int .i64 ec, .int .i64 es, .string sql, .slice pa ps.length pc] 42 ∧ Blk W q #[.int .i64 ek', .int .i64 ec', .int .i64 es', .string sql', .slice qa ps'.length qc] 42 ∧ True ∧ True)
        · intro key
          have hk := Lib.hid key
          clear key
          refine wp_region_held_drew (S := fun w' => Blk w' (p) #[.int .i64 ak, .int .i64 ek, .int .i64 ec, .int .i64 es, .string sql, .slice pa ps.length pc, .int .i64 n, .bool lg, .slice ca ch.length cc] 45 ∧ Blk w' (q) #[.int .i64 ak, .int .i64 ek', .int .i64 ec', .int .i64 es', .string sql', .slice qa ps'.length qc, .int .i64 n, .bool lg, .slice da ch'.length dc] 45) (by kernel_rfl) ⟨hA0, hB0⟩ (fun hHeld => ?_)
          (refine wpAnyH_take (i := 0) (v := (.pointer (some ⟨p, 1, none⟩))) rfl (by kernel_rfl) (by kernel_rfl) (by kernel_rfl) (fun _ _ _ h => h) (Or.inl ⟨by rfl, by intro w hSw; obtain ⟨y0, y1, y2, y3, y4, y5, y6, y7, y8⟩ := Blk.c9_ hSw.1; obtain ⟨z0, z1, z2, z3, z4, z5, z6, z7, z8⟩ := Blk.c9_ hSw.2; clear hSw; go_simp; try with_reducible rfl⟩) (by assumption) ?_; simp only [List.getElem_toArray, List.getElem_cons_zero, Act.put, List.setIfInBounds_toArray, List.set_cons_succ, List.set_cons_zero])
          (refine wpAnyH_take (i := 1) (v := (.agg #[.int .i64 ek, .int .i64 ec, .int .i64 es, .string sql, .slice pa ps.length pc])) rfl (by kernel_rfl) (by kernel_rfl) (by kernel_rfl) (fun _ _ _ h => h) (Or.inl ⟨by rfl, by intro w hSw; obtain ⟨y0, y1, y2, y3, y4, y5, y6, y7, y8⟩ := Blk.c9_ hSw.1; obtain ⟨z0, z1, z2, z3, z4, z5, z6, z7, z8⟩ := Blk.c9_ hSw.2; clear hSw; go_simp; try with_reducible rfl⟩) (by assumption) ?_; simp only [List.getElem_toArray, List.getElem_cons_succ, List.getElem_cons_zero, Act.put, List.setIfInBounds_toArray, List.set_cons_succ, List.set_cons_zero])
          (refine wpAnyH_take (i := 2) (v := (.pointer (some ⟨q, 1, none⟩))) rfl (by kernel_rfl) (by kernel_rfl) (by kernel_rfl) (fun _ _ _ h => h) (Or.inl ⟨by rfl, by intro w hSw; obtain ⟨y0, y1, y2, y3, y4, y5, y6, y7, y8⟩ := Blk.c9_ hSw.1; obtain ⟨z0, z1, z2, z3, z4, z5, z6, z7, z8⟩ := Blk.c9_ hSw.2; clear hSw; go_simp; try with_reducible rfl⟩) (by assumption) ?_; simp only [List.getElem_toArray, List.getElem_cons_succ, List.getElem_cons_zero, Act.put, List.setIfInBounds_toArray, List.set_cons_succ, List.set_cons_zero])
          (refine wpAnyH_take (i := 3) (v := (.agg #[.int .i64 ek', .int .i64 ec', .int .i64 es', .string sql', .slice qa ps'.length qc])) rfl (by kernel_rfl) (by kernel_rfl) (by kernel_rfl) (fun _ _ _ h => h) (Or.inl ⟨by rfl, by intro w hSw; obtain ⟨y0, y1, y2, y3, y4, y5, y6, y7, y8⟩ := Blk.c9_ hSw.1; obtain ⟨z0, z1, z2, z3, z4, z5, z6, z7, z8⟩ := Blk.c9_ hSw.2; clear hSw; go_simp; try with_reducible rfl⟩) (by assumption) ?_; simp only [List.getElem_toArray, List.getElem_cons_succ, List.getElem_cons_zero, Act.put, List.setIfInBounds_toArray, List.set_cons_succ, List.set_cons_zero])
          clear hHeld
          have hp0 : p < W0.heap.size := Blk.lt hA0
          have hp1 : q < W0.heap.size := Blk.lt hB0
          have hz1 : (W0.alloc (Obj.cells #[.int .i64 0, .int .i64 0, .int .i64 0, .string ⟨#[]⟩, .slice none 0 0] 42)).heap.size = W0.heap.size + 1 := by simp
          have hA1 : Blk (W0.alloc (Obj.cells #[.int .i64 0, .int .i64 0, .int .i64 0, .string ⟨#[]⟩, .slice none 0 0] 42)).drew (p) #[.int .i64 ak, .int .i64 ek, .int .i64 ec, .int .i64 es, .string sql, .slice pa ps.length pc, .int .i64 n, .bool lg, .slice ca ch.length cc] 45 := Blk.drew (Blk.alloc hA0 _)
          have hB1 : Blk (W0.alloc (Obj.cells #[.int .i64 0, .int .i64 0, .int .i64 0, .string ⟨#[]⟩, .slice none 0 0] 42)).drew (q) #[.int .i64 ak, .int .i64 ek', .int .i64 ec', .int .i64 es', .string sql', .slice qa ps'.length qc, .int .i64 n, .bool lg, .slice da ch'.length dc] 45 := Blk.drew (Blk.alloc hB0 _)
          have hA2 : Blk ((W0.alloc (Obj.cells #[.int .i64 0, .int .i64 0, .int .i64 0, .string ⟨#[]⟩, .slice none 0 0] 42)).alloc (Obj.cells #[.int .i64 0, .int .i64 0, .int .i64 0, .string ⟨#[]⟩, .slice none 0 0] 42)).drew (p) #[.int .i64 ak, .int .i64 ek, .int .i64 ec, .int .i64 es, .string sql, .slice pa ps.length pc, .int .i64 n, .bool lg, .slice ca ch.length cc] 45 := Blk.drew (Blk.alloc (Blk.alloc hA0 _) _)
          have hB2 : Blk ((W0.alloc (Obj.cells #[.int .i64 0, .int .i64 0, .int .i64 0, .string ⟨#[]⟩, .slice none 0 0] 42)).alloc (Obj.cells #[.int .i64 0, .int .i64 0, .int .i64 0, .string ⟨#[]⟩, .slice none 0 0] 42)).drew (q) #[.int .i64 ak, .int .i64 ek', .int .i64 ec', .int .i64 es', .string sql', .slice qa ps'.length qc, .int .i64 n, .bool lg, .slice da ch'.length dc] 45 := Blk.drew (Blk.alloc (Blk.alloc hB0 _) _)
          have hP2 : Blk ((W0.alloc (Obj.cells #[.int .i64 0, .int .i64 0, .int .i64 0, .string ⟨#[]⟩, .slice none 0 0] 42)).alloc (Obj.cells #[.int .i64 0, .int .i64 0, .int .i64 0, .string ⟨#[]⟩, .slice none 0 0] 42)).drew W0.heap.size #[.int .i64 0, .int .i64 0, .int .i64 0, .string ⟨#[]⟩, .slice none 0 0] 42 := Blk.drew (Blk.alloc (Blk.new _ _ _) _)
          have hQ2 : Blk ((W0.alloc (Obj.cells #[.int .i64 0, .int .i64 0, .int .i64 0, .string ⟨#[]⟩, .slice none 0 0] 42)).alloc (Obj.cells #[.int .i64 0, .int .i64 0, .int .i64 0, .string ⟨#[]⟩, .slice none 0 0] 42)).drew (W0.heap.size + 1) #[.int .i64 0, .int .i64 0, .int .i64 0, .string ⟨#[]⟩, .slice none 0 0] 42 := by have h := Blk.new (W0.alloc (Obj.cells #[.int .i64 0, .int .i64 0, .int .i64 0, .string ⟨#[]⟩, .slice none 0 0] 42)) #[.int .i64 0, .int .i64 0, .int .i64 0, .string ⟨#[]⟩, .slice none 0 0] 42; rw [hz1] at h; exact Blk.drew h
          have hb2 : Below w.heap.size w ((W0.alloc (Obj.cells #[.int .i64 0, .int .i64 0, .int .i64 0, .string ⟨#[]⟩, .slice none 0 0] 42)).alloc (Obj.cells #[.int .i64 0, .int .i64 0, .int .i64 0, .string ⟨#[]⟩, .slice none 0 0] 42)).drew := below_drew ((hbw.alloc hbw.size _).alloc (by have := hbw.size; simp; omega) _)
          clear hz1
          refine wpAnyH_ready (rs := [4, 5]) (by kernel_rfl) (by simp) (AllReadyH.cons rfl (fun K' hK => ?_) (AllReadyH.cons rfl (fun K' hK => ?_) AllReadyH.nil))
          · go_simp
            refine hK.out _ _ ⟨hA1, hB1⟩ (fun _ => ?_)
            clear hK K'
            refine wpAnyH_ready (rs := [5]) (by kernel_rfl) (by simp) (AllReadyH.cons rfl (fun K' hK => ?_) AllReadyH.nil)
            go_simp
            generalize hW2 : ((W0.alloc (Obj.cells #[.int .i64 0, .int .i64 0, .int .i64 0, .string ⟨#[]⟩, .slice none 0 0] 42)).alloc (Obj.cells #[.int .i64 0, .int .i64 0, .int .i64 0, .string ⟨#[]⟩, .slice none 0 0] 42)).drew = W2 at hA2 hB2 hP2 hQ2 hb2 ⊢
            refine hK.out _ _ ⟨hA2, hB2⟩ (fun _ => ?_)
            clear hK K' hW2 hA1 hB1
            have f0 := Blk.free hP2 0
            have f1 := Blk.free hP2 1
            have f2 := Blk.free hP2 2
            have f3 := Blk.free hP2 3
            have f4 := Blk.free hP2 4
            obtain ⟨e0, e1, e2, e3, e4⟩ := Blk.c5_ hP2
            refine wpAnyH_ready (rs := [6]) (by kernel_rfl) (by simp) (AllReadyH.cons rfl (fun K' hK => ?_) AllReadyH.nil)
            go_simp
            generalize hW3 : (((((W2).setCell ⟨W0.heap.size, 0, none⟩ (.int .i64 ek)).setCell ⟨W0.heap.size, 1, none⟩ (.int .i64 ec)).setCell ⟨W0.heap.size, 2, none⟩ (.int .i64 es)).setCell ⟨W0.heap.size, 3, none⟩ (.string sql)).setCell ⟨W0.heap.size, 4, none⟩ (.slice pa ps.length pc) = W3
            have hm3 : Moved (W0.heap.size) W2 W3 := by rw [← hW3]; exact (((((Moved.set (W0.heap.size) 0 _ _).trans (Moved.set (W0.heap.size) 1 _ _)).trans (Moved.set (W0.heap.size) 2 _ _)).trans (Moved.set (W0.heap.size) 3 _ _)).trans (Moved.set (W0.heap.size) 4 _ _))
            have hP3 : Blk W3 (W0.heap.size) #[.int .i64 ek, .int .i64 ec, .int .i64 es, .string sql, .slice pa ps.length pc] 42 := by rw [← hW3]; exact Blk.set5_ hP2
            have hQ3 : Blk W3 (W0.heap.size + 1) #[.int .i64 0, .int .i64 0, .int .i64 0, .string ⟨#[]⟩, .slice none 0 0] 42 := Blk.moved hQ2 hm3 (by omega)
            have hA3 := Blk.moved hA2 hm3 (by omega)
            have hB3 := Blk.moved hB2 hm3 (by omega)
            have hb3 : Below w.heap.size w W3 := below_over hb2 hm3 (by have := hp0; have := hp1; have := HPw.out; omega) (Nat.le_refl _)
            refine hK.out _ _ ⟨hA3, hB3⟩ (fun _ => ?_)
            clear hK K' hW3 hm3 hA2 hB2 hP2 hQ2 hb2 f0 e0 f1 e1 f2 e2 f3 e3 f4 e4
            have f0 := Blk.free hQ3 0
            have f1 := Blk.free hQ3 1
            have f2 := Blk.free hQ3 2
            have f3 := Blk.free hQ3 3
            have f4 := Blk.free hQ3 4
            obtain ⟨e0, e1, e2, e3, e4⟩ := Blk.c5_ hQ3
            refine wpAnyH_ready (rs := [7]) (by kernel_rfl) (by simp) (AllReadyH.cons rfl (fun K' hK => ?_) AllReadyH.nil)
            go_simp
            generalize hW4 : (((((W3).setCell ⟨W0.heap.size + 1, 0, none⟩ (.int .i64 ek')).setCell ⟨W0.heap.size + 1, 1, none⟩ (.int .i64 ec')).setCell ⟨W0.heap.size + 1, 2, none⟩ (.int .i64 es')).setCell ⟨W0.heap.size + 1, 3, none⟩ (.string sql')).setCell ⟨W0.heap.size + 1, 4, none⟩ (.slice qa ps'.length qc) = W4
            have hm4 : Moved (W0.heap.size + 1) W3 W4 := by rw [← hW4]; exact (((((Moved.set (W0.heap.size + 1) 0 _ _).trans (Moved.set (W0.heap.size + 1) 1 _ _)).trans (Moved.set (W0.heap.size + 1) 2 _ _)).trans (Moved.set (W0.heap.size + 1) 3 _ _)).trans (Moved.set (W0.heap.size + 1) 4 _ _))
            have hQ4 : Blk W4 (W0.heap.size + 1) #[.int .i64 ek', .int .i64 ec', .int .i64 es', .string sql', .slice qa ps'.length qc] 42 := by rw [← hW4]; exact Blk.set5_ hQ3
            have hP4 : Blk W4 (W0.heap.size) #[.int .i64 ek, .int .i64 ec, .int .i64 es, .string sql, .slice pa ps.length pc] 42 := Blk.moved hP3 hm4 (by omega)
            have hA4 := Blk.moved hA3 hm4 (by omega)
            have hB4 := Blk.moved hB3 hm4 (by omega)
            have hb4 : Below w.heap.size w W4 := below_over hb3 hm4 (by have := hp0; have := hp1; have := HPw.out; omega) (Nat.le_refl _)
            refine hK.out _ _ ⟨hA4, hB4⟩ (fun _ => ?_)
            clear hK K' hW4 hm4 hA3 hB3 hP3 hQ3 hb3 f0 e0 f1 e1 f2 e2 f3 e3 f4 e4
            refine wpAnyH_done (by kernel_rfl) ?_ _
            generalize W0.heap.size + 1 = q2 at hQ4 ⊢
            generalize W0.heap.size = p2 at hP4 ⊢
            exact hk.out W4 p2 q2 ⟨hb4, hP4, hQ4, trivial, trivial⟩
          · go_simp
            refine hK.out _ _ ⟨hA1, hB1⟩ (fun _ => ?_)
            clear hK K'
            refine wpAnyH_ready (rs := [4]) (by kernel_rfl) (by simp) (AllReadyH.cons rfl (fun K' hK => ?_) AllReadyH.nil)
            go_simp
            generalize hW2 : ((W0.alloc (Obj.cells #[.int .i64 0, .int .i64 0, .int .i64 0, .string ⟨#[]⟩, .slice none 0 0] 42)).alloc (Obj.cells #[.int .i64 0, .int .i64 0, .int .i64 0, .string ⟨#[]⟩, .slice none 0 0] 42)).drew = W2 at hA2 hB2 hP2 hQ2 hb2 ⊢
            refine hK.out _ _ ⟨hA2, hB2⟩ (fun _ => ?_)
            clear hK K' hW2 hA1 hB1
            have f0 := Blk.free hQ2 0
            have f1 := Blk.free hQ2 1
            have f2 := Blk.free hQ2 2
            have f3 := Blk.free hQ2 3
            have f4 := Blk.free hQ2 4
            obtain ⟨e0, e1, e2, e3, e4⟩ := Blk.c5_ hQ2
            refine wpAnyH_ready (rs := [6]) (by kernel_rfl) (by simp) (AllReadyH.cons rfl (fun K' hK => ?_) AllReadyH.nil)
            go_simp
            generalize hW3 : (((((W2).setCell ⟨W0.heap.size + 1, 0, none⟩ (.int .i64 ek)).setCell ⟨W0.heap.size + 1, 1, none⟩ (.int .i64 ec)).setCell ⟨W0.heap.size + 1, 2, none⟩ (.int .i64 es)).setCell ⟨W0.heap.size + 1, 3, none⟩ (.string sql)).setCell ⟨W0.heap.size + 1, 4, none⟩ (.slice pa ps.length pc) = W3
            have hm3 : Moved (W0.heap.size + 1) W2 W3 := by rw [← hW3]; exact (((((Moved.set (W0.heap.size + 1) 0 _ _).trans (Moved.set (W0.heap.size + 1) 1 _ _)).trans (Moved.set (W0.heap.size + 1) 2 _ _)).trans (Moved.set (W0.heap.size + 1) 3 _ _)).trans (Moved.set (W0.heap.size + 1) 4 _ _))
            have hP3 : Blk W3 (W0.heap.size + 1) #[.int .i64 ek, .int .i64 ec, .int .i64 es, .string sql, .slice pa ps.length pc] 42 := by rw [← hW3]; exact Blk.set5_ hQ2
            have hQ3 : Blk W3 (W0.heap.size) #[.int .i64 0, .int .i64 0, .int .i64 0, .string ⟨#[]⟩, .slice none 0 0] 42 := Blk.moved hP2 hm3 (by omega)
            have hA3 := Blk.moved hA2 hm3 (by omega)
            have hB3 := Blk.moved hB2 hm3 (by omega)
            have hb3 : Below w.heap.size w W3 := below_over hb2 hm3 (by have := hp0; have := hp1; have := HPw.out; omega) (Nat.le_refl _)
            refine hK.out _ _ ⟨hA3, hB3⟩ (fun _ => ?_)
            clear hK K' hW3 hm3 hA2 hB2 hP2 hQ2 hb2 f0 e0 f1 e1 f2 e2 f3 e3 f4 e4
            have f0 := Blk.free hQ3 0
            have f1 := Blk.free hQ3 1
            have f2 := Blk.free hQ3 2
            have f3 := Blk.free hQ3 3
            have f4 := Blk.free hQ3 4
            obtain ⟨e0, e1, e2, e3, e4⟩ := Blk.c5_ hQ3
            refine wpAnyH_ready (rs := [7]) (by kernel_rfl) (by simp) (AllReadyH.cons rfl (fun K' hK => ?_) AllReadyH.nil)
            go_simp
            generalize hW4 : (((((W3).setCell ⟨W0.heap.size, 0, none⟩ (.int .i64 ek')).setCell ⟨W0.heap.size, 1, none⟩ (.int .i64 ec')).setCell ⟨W0.heap.size, 2, none⟩ (.int .i64 es')).setCell ⟨W0.heap.size, 3, none⟩ (.string sql')).setCell ⟨W0.heap.size, 4, none⟩ (.slice qa ps'.length qc) = W4
            have hm4 : Moved (W0.heap.size) W3 W4 := by rw [← hW4]; exact (((((Moved.set (W0.heap.size) 0 _ _).trans (Moved.set (W0.heap.size) 1 _ _)).trans (Moved.set (W0.heap.size) 2 _ _)).trans (Moved.set (W0.heap.size) 3 _ _)).trans (Moved.set (W0.heap.size) 4 _ _))
            have hQ4 : Blk W4 (W0.heap.size) #[.int .i64 ek', .int .i64 ec', .int .i64 es', .string sql', .slice qa ps'.length qc] 42 := by rw [← hW4]; exact Blk.set5_ hQ3
            have hP4 : Blk W4 (W0.heap.size + 1) #[.int .i64 ek, .int .i64 ec, .int .i64 es, .string sql, .slice pa ps.length pc] 42 := Blk.moved hP3 hm4 (by omega)
            have hA4 := Blk.moved hA3 hm4 (by omega)
            have hB4 := Blk.moved hB3 hm4 (by omega)
            have hb4 : Below w.heap.size w W4 := below_over hb3 hm4 (by have := hp0; have := hp1; have := HPw.out; omega) (Nat.le_refl _)
            refine hK.out _ _ ⟨hA4, hB4⟩ (fun _ => ?_)
            clear hK K' hW4 hm4 hA3 hB3 hP3 hQ3 hb3 f0 e0 f1 e1 f2 e2 f3 e3 f4 e4
            refine wpAnyH_done (by kernel_rfl) ?_ _
            generalize W0.heap.size + 1 = p2 at hP4 ⊢
            generalize W0.heap.size = q2 at hQ4 ⊢
            exact hk.out W4 p2 q2 ⟨hb4, hP4, hQ4, trivial, trivial⟩
        · intro W p2 q2 hH
          obtain ⟨hbw2, hP, hQ, -, -⟩ := hH
          have HB2 := Lib.hid hbw2
          obtain ⟨p0, p1, p2, p3, p4⟩ := Blk.c5_ hP
          obtain ⟨q0, q1, q2, q3, q4⟩ := Blk.c5_ hQ
          clear hbw2 hP hQ hA0 hB0 hbw
          by_cases hq : ek = ek'
          rotate_left
          · have HX : Hid (R = false) := Lib.hid (by rw [HC2.out]; simp [hq])
            have hq1 : (ek == ek') = false := by simp [hq]
            have hq2 : (ek != ek') = true := by simp [hq]
            clear HC2
            go_wp2_with fail
            go_ret
            rw [HX.out]
            exact ⟨rfl, HB2.out⟩
          subst hq
          by_cases hq : ec = ec'
          rotate_left
          · have HX : Hid (R = false) := Lib.hid (by rw [HC2.out]; simp [hq])
            have hq1 : (ec == ec') = false := by simp [hq]
            have hq2 : (ec != ec') = true := by simp [hq]
            clear HC2
            go_wp2_with fail
            go_ret
            rw [HX.out]
            exact ⟨rfl, HB2.out⟩
          subst hq
          by_cases hq : es = es'
          rotate_left
          · have HX : Hid (R = false) := Lib.hid (by rw [HC2.out]; simp [hq])
            have hq1 : (es == es') = false := by simp [hq]
            have hq2 : (es != es') = true := by simp [hq]
            clear HC2
            go_wp2_with fail
            go_ret
            rw [HX.out]
            exact ⟨rfl, HB2.out⟩
          subst hq
          cases hq : (sql.toList == sql'.toList) with
          | false =>
            have HX : Hid (R = false) := Lib.hid (by rw [HC2.out, ← toList_data, ← toList_data, hq]; simp)
            clear HC2
            go_wp2_with fail
            go_ret
            rw [HX.out]
            exact ⟨rfl, HB2.out⟩
          | true =>
            have HX : Hid (R = bp) := Lib.hid (by rw [HC2.out, ← toList_data, ← toList_data, hq]; simp)
            clear HC2
            go_wp2_with (go_at_call 38; refine (HP.out _ HB2.out).mono ?_; rintro e w3 ⟨rfl, hb3⟩)
            go_ret
            rw [HX.out]
            exact ⟨rfl, bthn HB2.out hb3⟩
end Go.Proofs.YtkkildkleleppaaGreatDoor
