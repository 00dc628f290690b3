/- Copies of commands: bureaulaw32.copied. The document's lines: Word, Slot, LineEvent. -/
import Derived.Test.YtkkildkleleppaaGreatDoorJ36
import Derived.Test.YtkkildkleleppaaGreatDoorJ31
import Derived.Test.YtkkildkleleppaaGreatDoorJ39
namespace Go.Proofs.YtkkildkleleppaaGreatDoor
open Go.RowKit

/-- A command of the call's own is returned. -/
def CopC (w : World) (c : C) (e : Ending) (w' : World) : Prop := ∃ v, e = .returned v ∧ OwnC w' w.heap.size v c ∧ Below w.heap.size w w'
theorem jcells_one (l : List Int) : ∀ u ∈ jcells l, u.oneCell' = true := by
  intro u hu
  obtain ⟨n, _, rfl⟩ := List.mem_map.1 hu
  rfl
theorem IsIs.reads {w : World} {a : Option Addr} {l : List Int} (h : IsIs w a l) : Reads w 1 a l.length (jcells l) := by
  refine ⟨by rw [jcells_length]; omega, fun hn => ?_⟩
  rcases h with h | ⟨b, o, rfl, hv⟩
  · subst h; simp at hn
  · refine ⟨_, rfl, fun j u hu => ?_⟩
    rw [add_lit]
    simp only [jcells, List.getElem?_map, Option.map_eq_some_iff] at hu
    obtain ⟨n, hn, rfl⟩ := hu
    exact hv j n hn
theorem own_empty (w : World) {B : Nat} (e : TypeId) (size : Nat) (hB : B ≤ w.heap.size) : (w.alloc (.cells #[] e)).ownsRow B e size (.slice (some ⟨w.heap.size, 0, none⟩) 0 0) 0 [] :=
  ⟨by simp, .inr ⟨w.heap.size, 0, #[], rfl, hB, Blk.new w #[] e, Nat.le_refl _, by decide, by simp, by simp⟩⟩
set_option maxRecDepth 100000 in
set_option maxHeartbeats 2000000 in
theorem copied32_any (v : Value) (c : C) (hf : FitC c) (w : World) (h : IsC w v c) : Calls Tryz.prog 21 #[v] w (CopC w c) := by
  obtain ⟨pa, pc, ca, cc, ta, tc, hv, -, -, -, i4, i5, i6⟩ := h
  unfold C.val cmdV at hv
  subst hv
  have hchl := hf.chl
  have hpsl := hf.psl
  have htl := hf.tl
  have HPL := Lib.hid hf.tps
  obtain ⟨W0, hW0⟩ : ∃ W0, (w.alloc (.cells #[.int .i64 c.k, .int .i64 c.ak, .int .i64 c.ek, .int .i64 c.ec, .int .i64 c.es, .string c.sql, .slice pa c.ps.length pc, .int .i64 c.n, .bool c.log, .slice ca c.ch.length cc, .int .i64 c.conn, .slice ta c.told.length tc] 47)).alloc (.cells #[.int .i64 0, .int .i64 0, .int .i64 0, .int .i64 0, .int .i64 0, .string ⟨#[]⟩, .slice none 0 0, .int .i64 0, .bool false, .slice none 0 0, .int .i64 0, .slice none 0 0] 47) = W0 := ⟨_, rfl⟩
  have hs1 : (w.alloc (Obj.cells #[.int .i64 c.k, .int .i64 c.ak, .int .i64 c.ek, .int .i64 c.ec, .int .i64 c.es, .string c.sql, .slice pa c.ps.length pc, .int .i64 c.n, .bool c.log, .slice ca c.ch.length cc, .int .i64 c.conn, .slice ta c.told.length tc] 47)).heap.size = w.heap.size + 1 := by simp
  have HA0 : Hid (Blk W0 w.heap.size #[.int .i64 c.k, .int .i64 c.ak, .int .i64 c.ek, .int .i64 c.ec, .int .i64 c.es, .string c.sql, .slice pa c.ps.length pc, .int .i64 c.n, .bool c.log, .slice ca c.ch.length cc, .int .i64 c.conn, .slice ta c.told.length tc] 47) := Lib.hid (by rw [← hW0]; exact Blk.alloc (Blk.new _ _ _) _)
  have HR0 : Hid (CBox W0 (w.heap.size + 1)) := Lib.hid (by rw [← hW0]; have := Blk.new (w.alloc (Obj.cells #[.int .i64 c.k, .int .i64 c.ak, .int .i64 c.ek, .int .i64 c.ec, .int .i64 c.es, .string c.sql, .slice pa c.ps.length pc, .int .i64 c.n, .bool c.log, .slice ca c.ch.length cc, .int .i64 c.conn, .slice ta c.told.length tc] 47)) #[.int .i64 0, .int .i64 0, .int .i64 0, .int .i64 0, .int .i64 0, .string ⟨#[]⟩, .slice none 0 0, .int .i64 0, .bool false, .slice none 0 0, .int .i64 0, .slice none 0 0] 47; rw [hs1] at this; exact this)
  have HB0 : Hid (Below w.heap.size w W0) := Lib.hid (by rw [← hW0]; exact (below_alloc _ _).alloc (by simp) _)
  have HV4 := Lib.hid i4
  have HV5 := Lib.hid (i5.below HB0.out)
  have HV6 := Lib.hid i6
  have HOe := Lib.hid (own_empty W0 3 1 HB0.out.size)
  have HRd := Lib.hid (IsIs.reads (HV5.out.below (below_alloc W0 (.cells #[] 3))))
  have a9 := cell_alloc (.cells #[] 3) (Blk.c12 HA0.out).2.2.2.2.2.2.2.2.2.1
  clear hs1 i4 i5 i6 hf
  go_enter Tryz.func21, Tryz.ntmps21
  go_upto_region 2 with (at_builtin; refine wpList_append_any (W0.alloc (.cells #[] 3)) rfl (.tmp 5) (.tmp 8) _ rfl w.heap.size _ _ 1 8 Tryz.underlying43 infoJ rfl (by decide) (by decide) (.slice (some ⟨W0.heap.size, 0, none⟩) 0 0) 0 [] rfl HOe.out ca c.ch.length cc (jcells c.ch) rfl HRd.out (jcells_one _) (by omega) (by have := HB0.out.size; simp; omega) ?_; intro v1 w1 hown1 hg1; have HA1 : Hid (Blk w1 w.heap.size #[.int .i64 c.k, .int .i64 c.ak, .int .i64 c.ek, .int .i64 c.ec, .int .i64 c.es, .string c.sql, .slice pa c.ps.length pc, .int .i64 c.n, .bool c.log, .slice ca c.ch.length cc, .int .i64 c.conn, .slice ta c.told.length tc] 47) := Lib.hid (Blk.grown (Blk.alloc HA0.out _) HOe.out hg1 (by decide)); have HR1 : Hid (CBox w1 (w.heap.size + 1)) := Lib.hid (Blk.grown (Blk.alloc HR0.out _) HOe.out hg1 (by decide)); have HB1 : Hid (Below w.heap.size w w1) := Lib.hid (own_next HOe.out (HB0.out.alloc HB0.out.size _) hg1 (by have := HB0.out.size; simp; omega)); rw [Nat.zero_add, List.nil_append] at hown1; obtain ⟨ca1, cc1, hve1, -, -, -⟩ := own_form hown1; subst hve1; have HO1 := Lib.hid hown1; have f9 := Blk.free HA1.out 9; have e9 := (Blk.c12 HA1.out).2.2.2.2.2.2.2.2.2.1)
  generalize hW2 : w1.setCell ⟨w.heap.size, 9, none⟩ (.slice ca1 c.ch.length cc1) = W2
  have hm2 : Moved w.heap.size w1 W2 := by rw [← hW2]; exact Moved.set w.heap.size 9 _ _
  have HA2 : Hid (Blk W2 w.heap.size #[.int .i64 c.k, .int .i64 c.ak, .int .i64 c.ek, .int .i64 c.ec, .int .i64 c.es, .string c.sql, .slice pa c.ps.length pc, .int .i64 c.n, .bool c.log, .slice ca1 c.ch.length cc1, .int .i64 c.conn, .slice ta c.told.length tc] 47) := Lib.hid (by rw [← hW2]; exact Blk.set HA1.out 9 _)
  have HR2 : Hid (CBox W2 (w.heap.size + 1)) := Lib.hid (Blk.moved HR1.out hm2 (by omega))
  have HB2 : Hid (Below w.heap.size w W2) := Lib.hid (below_over HB1.out hm2 (Nat.le_refl _) (Nat.le_refl _))
  have HO2 : Hid (W2.ownsRow w.heap.size 3 1 (.slice ca1 c.ch.length cc1) c.ch.length (jcells c.ch)) := Lib.hid (own_moved HO1.out hm2 (HA1.out.apart HO1.out (by decide)))
  have e6 := (Blk.c12 HA2.out).2.2.2.2.2.2.1
  clear hW2 hm2 hown1 hg1 HA1 HR1 HB1 HO1 e9 f9 a9
  go_upto_region 3 with (go_at_call 31; refine (Copy_any pa c.ps.length pc c.ps rfl (by omega) _ (HV4.out.below HB2.out)).mono ?_; rintro e w3 ⟨v3, rfl, hown3, hb3⟩; obtain ⟨pa1, pc1, hve3, -, -, -⟩ := own_form hown3; subst hve3; have HA3 : Hid (Blk w3 w.heap.size #[.int .i64 c.k, .int .i64 c.ak, .int .i64 c.ek, .int .i64 c.ec, .int .i64 c.es, .string c.sql, .slice pa c.ps.length pc, .int .i64 c.n, .bool c.log, .slice ca1 c.ch.length cc1, .int .i64 c.conn, .slice ta c.told.length tc] 47) := Lib.hid (Blk.below HA2.out hb3); have f6 := Blk.free HA3.out 6; have e6 := (Blk.c12 HA3.out).2.2.2.2.2.2.1)
  generalize hW4 : w3.setCell ⟨w.heap.size, 6, none⟩ (.slice pa1 c.ps.length pc1) = W4
  have hm4 : Moved w.heap.size w3 W4 := by rw [← hW4]; exact Moved.set w.heap.size 6 _ _
  have HA4 : Hid (Blk W4 w.heap.size #[.int .i64 c.k, .int .i64 c.ak, .int .i64 c.ek, .int .i64 c.ec, .int .i64 c.es, .string c.sql, .slice pa1 c.ps.length pc1, .int .i64 c.n, .bool c.log, .slice ca1 c.ch.length cc1, .int .i64 c.conn, .slice ta c.told.length tc] 47) := Lib.hid (by rw [← hW4]; exact Blk.set HA3.out 6 _)
  have HR4 : Hid (CBox W4 (w.heap.size + 1)) := Lib.hid (Blk.moved (Blk.below HR2.out hb3) hm4 (by omega))
  have HB4 : Hid (Below w.heap.size w W4) := Lib.hid (below_over (bthn HB2.out hb3) hm4 (Nat.le_refl _) (Nat.le_refl _))
  have HO4 : Hid (W4.ownsRow w.heap.size 3 1 (.slice ca1 c.ch.length cc1) c.ch.length (jcells c.ch)) := Lib.hid (own_moved (own_kept HO2.out hb3) hm4 (HA3.out.apart (own_kept HO2.out hb3) (by decide)))
  have HP4 : Hid (W4.ownsRow w.heap.size 80 3 (.slice pa1 c.ps.length pc1) c.ps.length (vcells c.ps)) := Lib.hid (own_moved (own_mono HB2.out.size hown3) hm4 (HA3.out.apart hown3 (by decide)))
  have HT4 : Hid (IsTs W4 ta c.told) := Lib.hid (HV6.out.below HB4.out)
  clear hW4 hm4 hown3 hb3 HA2 HR2 HB2 HO2 HA3 f6 e6 HA0 HR0 HB0 HOe HRd HV4 HV5 HV6 hW0
  obtain ⟨x0, x1, x2, x3, x4, x5, x6, x7, x8, x9, x10, x11⟩ := Blk.c12 HA4.out
  have X11 := Lib.hid x11
  clear x0 x1 x2 x3 x4 x5 x6 x7 x8 x9 x10
  generalize hnn : c.told.length = nt at htl X11 x11
  have HNT := Lib.hid hnn
  clear hnn
  go_wp2
  go_loopw [3, 4] (fun out i wr => ∃ (k : Nat) (xs : List Value), k ≤ nt ∧ i = .int .i64 k ∧ wr.ownsRow W4.heap.size 71 2 out k xs ∧ TRow wr W4.heap.size 80 xs (c.told.take k) ∧ Below W4.heap.size W4 wr) (fun _ i _ => nt - (intOf i).toNat)
  case atStart => exact ⟨0, [], by omega, rfl, World.ownsRow_nil _ _ _ _, TRow.nil_ _ _ _, Below.refl _ _⟩
  case round =>
    obtain ⟨k, xs, hk, rfl, hown, htr, hb⟩ := hrel
    have y11 := (hb.cell (lt_of_cell x11)).trans x11
    clear x11
    by_cases hlt : k < nt
    · have hkv : k < c.told.length := by have := HNT.out; omega
      obtain ⟨b, o, rfl, t0, qa, qc, t1, hpc, hvs⟩ := HT4.out.at_ hkv
      have q0 := (hb.cell (lt_of_cell t0)).trans t0
      have q1 := (hb.cell (lt_of_cell t1)).trans t1
      have hpl := HPL.out c.told[k] (List.getElem_mem hkv)
      have HT : Hid (c.told.take (k + 1) = c.told.take k ++ [c.told[k]]) := Lib.hid (List.take_succ_eq_append_getElem hkv)
      generalize c.told[k] = t at t0 t1 q0 q1 hpc hvs HT hpl
      obtain ⟨sql, ps⟩ := t
      simp only at t0 t1 q0 q1 hpc hvs hpl
      generalize hm : ps.length = m at t1 q1 hpc hpl
      have HM := Lib.hid hm
      have HV := Lib.hid (hvs.below hb)
      have T0 := Lib.hid t0
      have T1 := Lib.hid t1
      clear hm hvs t0 t1
      have hz := lt_of_cell q0
      simp only at hz
      have hk0 : (0 : Int) ≤ (k : Int) := Int.natCast_nonneg _
      have hk1 : (k : Int) < (nt : Int) := by omega
      go_wp2_with fail
      go_region_held3 (fun w' => w'.cell? ⟨w.heap.size, 11, none⟩ = some (.slice (some ⟨b, o, none⟩) nt tc) ∧ w'.cell? ⟨b, o + k * 2, none⟩ = some (.string sql) ∧ w'.cell? ⟨b, o + k * 2 + 1, none⟩ = some (.slice qa m qc))
        (first
          | exact ⟨(hbw3.cell (lt_of_cell X11.out)).trans X11.out, (hbw3.cell (lt_of_cell T0.out)).trans T0.out, (hbw3.cell (lt_of_cell T1.out)).trans T1.out⟩
          | exact ⟨((hbw2.alloc hz2 _).cell (lt_of_cell X11.out)).trans X11.out, ((hbw2.alloc hz2 _).cell (lt_of_cell T0.out)).trans T0.out, ((hbw2.alloc hz2 _).cell (lt_of_cell T1.out)).trans T1.out⟩
          | exact ⟨(hbw2.cell (lt_of_cell X11.out)).trans X11.out, (hbw2.cell (lt_of_cell T0.out)).trans T0.out, (hbw2.cell (lt_of_cell T1.out)).trans T1.out⟩
          | go_keep)
        (first
          | (go_at_call 31; refine (Copy_any qa m qc ps HM.out.symm (by omega) _ (by exact HV.out)).mono ?_; rintro e w2 ⟨v2, rfl, hown2, hbc⟩; obtain ⟨pa2, pc2, rfl, hx2⟩ := own_form hown2; clear hx2; have hbw2 : Below W4.heap.size W4 w2 := (below_drew hb).trans (hbc.mono hb.size); have hz2 : W4.heap.size ≤ w2.heap.size := hbw2.size)
          | (refine step_append_any (w2.alloc (.cells #[.string sql, .slice pa2 ps.length pc2] 71)) rfl (.tmp 27) (.tmp 42) _ (by rfl) W4.heap.size _ _ 2 40 Tryz.underlying22 infoT rfl (by decide) (by decide) _ k xs (by rfl) (World.ownsRow.alloc (own_kept (own_drew hown) hbc) _) _ 1 1 [.string sql, .slice pa2 ps.length pc2] (by rfl) ⟨rfl, fun _ => ⟨_, rfl, cells_new w2 _ _ _ rfl⟩⟩ (by intro u hu; simp only [List.mem_cons, List.not_mem_nil, or_false] at hu; rcases hu with rfl | rfl <;> first | rfl | exact own_slice hown2) (by omega) (by simp; omega) ?_; intro v3 w3 hown3 hg3; have hbw3 : Below W4.heap.size W4 w3 := own_next (World.ownsRow.alloc (own_kept (own_drew hown) hbc) _) (hbw2.alloc hz2 _) hg3 (by simp; omega)))
      go_wp2
      go_roundw
      case rel =>
        refine ⟨k + 1, _, by omega, by simp, hown3, ?_, hbw3⟩
        rw [HT.out]
        have hA := TRow.push (TRow.below htr.drew_ hbc) ⟨sql, ps⟩ _ (own_slice hown2) (own_mono hb.size hown2)
        exact TRow.kept (TRow.below hA (below_alloc _ _)) (World.ownsRow.alloc (own_kept (own_drew hown) hbc) _) (by decide) hg3
      case measure => simp [intOf]; omega
    · have hk2 : k = nt := by omega
      subst hk2
      have hk1 : ¬ (k : Int) < (k : Int) := by omega
      rw [show c.told.take k = c.told by rw [← HNT.out]; exact List.take_length] at htr
      obtain ⟨ta1, tc1, hve, -, -, -⟩ := own_form hown
      subst hve
      have HA5 : Hid (Blk wr w.heap.size #[.int .i64 c.k, .int .i64 c.ak, .int .i64 c.ek, .int .i64 c.ec, .int .i64 c.es, .string c.sql, .slice pa1 c.ps.length pc1, .int .i64 c.n, .bool c.log, .slice ca1 c.ch.length cc1, .int .i64 c.conn, .slice ta c.told.length tc] 47) := Lib.hid (Blk.below HA4.out hb)
      have f11 := Blk.free HA5.out 11
      go_upto_region 9 with fail
      generalize hW6 : wr.setCell ⟨w.heap.size, 11, none⟩ (.slice ta1 k tc1) = W6
      have hm6 : Moved w.heap.size wr W6 := by rw [← hW6]; exact Moved.set w.heap.size 11 _ _
      have hA6 : Blk W6 w.heap.size #[.int .i64 c.k, .int .i64 c.ak, .int .i64 c.ek, .int .i64 c.ec, .int .i64 c.es, .string c.sql, .slice pa1 c.ps.length pc1, .int .i64 c.n, .bool c.log, .slice ca1 c.ch.length cc1, .int .i64 c.conn, .slice ta1 k tc1] 47 := by rw [← hW6]; exact Blk.set HA5.out 11 _
      have hR6 : CBox W6 (w.heap.size + 1) := Blk.moved (Blk.below HR4.out hb) hm6 (by omega)
      have HB6 : Hid (Below w.heap.size w W6) := Lib.hid (below_over (bthn HB4.out hb) hm6 (Nat.le_refl _) (Nat.le_refl _))
      have hO : W6.ownsRow w.heap.size 3 1 (.slice ca1 c.ch.length cc1) c.ch.length (jcells c.ch) := own_moved (own_kept HO4.out hb) hm6 (HA5.out.apart (own_kept HO4.out hb) (by decide))
      have hP : W6.ownsRow w.heap.size 80 3 (.slice pa1 c.ps.length pc1) c.ps.length (vcells c.ps) := own_moved (own_kept HP4.out hb) hm6 (HA5.out.apart (own_kept HP4.out hb) (by decide))
      have hT : W6.ownsRow w.heap.size 71 2 (.slice ta1 k tc1) k xs := own_moved (own_mono HB4.out.size hown) hm6 (HA5.out.apart hown (by decide))
      have hTr : TRow W6 w.heap.size 80 xs c.told := by
        refine ⟨htr.1, htr.2.1, fun i t hi => ?_⟩
        obtain ⟨h0, u, hu, ho⟩ := htr.2.2 i t hi
        exact ⟨h0, u, hu, own_moved (own_mono HB4.out.size ho) hm6 (HA5.out.apart ho (by decide))⟩
      have HC6 : Hid (OwnC W6 w.heap.size (.agg #[.int .i64 c.k, .int .i64 c.ak, .int .i64 c.ek, .int .i64 c.ec, .int .i64 c.es, .string c.sql, .slice pa1 c.ps.length pc1, .int .i64 c.n, .bool c.log, .slice ca1 c.ch.length cc1, .int .i64 c.conn, .slice ta1 k tc1]) c) := Lib.hid ⟨_, _, _, xs, rfl, hP, hO, by rw [HNT.out]; exact hT, hTr⟩
      obtain ⟨u0, u1, u2, u3, u4, u5, u6, u7, u8, u9, u10, u11⟩ := Blk.c12 hA6
      obtain ⟨r0, r1, r2, r3, r4, r5, r6, r7, r8, r9, r10, r11⟩ := CBox.cells hR6
      obtain ⟨g0, g1, g2, g3, g4, g5, g6, g7, g8, g9, g10, g11⟩ := CBox.free hR6
      have HR6 := Lib.hid hR6
      clear hW6 hm6 hA6 hR6 hO hP hT hTr hown htr hb y11 f11 HA5
      go_wp2_with fail
      refine bodyPost_ret (by simp [results, Tryz.results21, go_sem, r0, r1, r2, r3, r4, r5, r6, r7, r8, r9, r10, r11]; try rfl) rfl ?_
      exact ⟨_, rfl, HC6.out.movedR HR6.out ((((((((((((Moved.set (w.heap.size + 1) 0 _ _).trans (Moved.set (w.heap.size + 1) 1 _ _)).trans (Moved.set (w.heap.size + 1) 2 _ _)).trans (Moved.set (w.heap.size + 1) 3 _ _)).trans (Moved.set (w.heap.size + 1) 4 _ _)).trans (Moved.set (w.heap.size + 1) 5 _ _)).trans (Moved.set (w.heap.size + 1) 6 _ _)).trans (Moved.set (w.heap.size + 1) 7 _ _)).trans (Moved.set (w.heap.size + 1) 8 _ _)).trans (Moved.set (w.heap.size + 1) 9 _ _)).trans (Moved.set (w.heap.size + 1) 10 _ _)).trans (Moved.set (w.heap.size + 1) 11 _ _)), below_over HB6.out ((((((((((((Moved.set (w.heap.size + 1) 0 _ _).trans (Moved.set (w.heap.size + 1) 1 _ _)).trans (Moved.set (w.heap.size + 1) 2 _ _)).trans (Moved.set (w.heap.size + 1) 3 _ _)).trans (Moved.set (w.heap.size + 1) 4 _ _)).trans (Moved.set (w.heap.size + 1) 5 _ _)).trans (Moved.set (w.heap.size + 1) 6 _ _)).trans (Moved.set (w.heap.size + 1) 7 _ _)).trans (Moved.set (w.heap.size + 1) 8 _ _)).trans (Moved.set (w.heap.size + 1) 9 _ _)).trans (Moved.set (w.heap.size + 1) 10 _ _)).trans (Moved.set (w.heap.size + 1) 11 _ _)) (by omega) (Nat.le_refl _)⟩
end Go.Proofs.YtkkildkleleppaaGreatDoor
namespace Go.Proofs.YtkkildkleleppaaGreatDoor
open Go.RowKit

theorem cat_sql (a : List UInt8) (s : ByteArray) : ByteArray.mk a.toArray ++ s = ByteArray.mk (a ++ s.data.toList).toArray := by
  have h := cat_str a s.data.toList
  rw [arr_self] at h
  exact h
theorem rslot_gen (k : Int) (w : World) : Calls Tryz.prog 104 #[.int .i64 k] w (Ret w (.bool (slotK k))) := by
  by_cases h4 : k = 4
  · subst h4
    go_enter Tryz.func104, Tryz.ntmps104
    go_wp2
    go_ret
    exact ⟨rfl, Below.refl _ _⟩
  by_cases h5 : k = 5
  · subst h5
    go_enter Tryz.func104, Tryz.ntmps104
    go_wp2
    go_ret
    exact ⟨rfl, Below.refl _ _⟩
  by_cases h6 : k = 6
  · subst h6
    go_enter Tryz.func104, Tryz.ntmps104
    go_wp2
    go_ret
    exact ⟨rfl, Below.refl _ _⟩
  by_cases h7 : k = 7
  · subst h7
    go_enter Tryz.func104, Tryz.ntmps104
    go_wp2
    go_ret
    exact ⟨rfl, Below.refl _ _⟩
  have hX : slotK k = decide (k = 8) := by simp [slotK, h4, h5, h6, h7]
  have k4 : (k == 4) = false := by simp [h4]
  have k5 : (k == 5) = false := by simp [h5]
  have k6 : (k == 6) = false := by simp [h6]
  have k7 : (k == 7) = false := by simp [h7]
  have HX := Lib.hid hX
  clear h4 h5 h6 h7 hX
  by_cases h8 : k = 8
  · have k8 : (k == 8) = true := by simp [h8]
    have HY := Lib.hid h8
    clear h8
    go_enter Tryz.func104, Tryz.ntmps104
    go_wp2
    go_ret
    rw [HX.out, decide_eq_true HY.out]
    exact ⟨rfl, Below.refl _ _⟩
  · have k8 : (k == 8) = false := by simp [h8]
    have HY := Lib.hid h8
    clear h8
    go_enter Tryz.func104, Tryz.ntmps104
    go_wp2
    go_ret
    rw [HX.out, decide_eq_false HY.out]
    exact ⟨rfl, Below.refl _ _⟩

set_option maxRecDepth 100000 in
set_option maxHeartbeats 2000000 in
theorem rword_any (c : C) (pa : Option Addr) (pc : Nat) (w : World) : Calls Tryz.prog 157 #[.agg #[.int .i64 c.ek, .int .i64 c.ec, .int .i64 c.es, .string c.sql, .slice pa c.ps.length pc]] w (Ret w (.string ⟨(wordOf c).toArray⟩)) := by
  obtain ⟨W0, hW0⟩ : ∃ W0, w.alloc (.cells #[.int .i64 c.ek, .int .i64 c.ec, .int .i64 c.es, .string c.sql, .slice pa c.ps.length pc] 42) = W0 := ⟨_, rfl⟩
  have HB : Hid (Below w.heap.size w W0) := Lib.hid (by rw [← hW0]; exact below_alloc _ _)
  have hE0 : Blk W0 w.heap.size #[.int .i64 c.ek, .int .i64 c.ec, .int .i64 c.es, .string c.sql, .slice pa c.ps.length pc] 42 := by rw [← hW0]; exact Blk.new _ _ _
  have e0 : W0.cell? ⟨w.heap.size, 0, none⟩ = some (.int .i64 c.ek) := Blk.cell hE0 0
  have e4 : W0.cell? ⟨w.heap.size, 4, none⟩ = some (.slice pa c.ps.length pc) := Blk.cell hE0 4
  clear hE0
  by_cases h1 : c.ek = 1
  · have HX : Hid (wordOf c = verbW 0) := Lib.hid (by simp [wordOf, h1])
    rw [h1] at e0
    clear h1
    go_enter Tryz.func157, Tryz.ntmps157
    go_wp2
    go_ret
    rw [HX.out]
    exact ⟨rfl, HB.out⟩
  have k1 : (c.ek == 1) = false := by simp [h1]
  by_cases h2 : c.ek = 2
  · have HX : Hid (wordOf c = verbW 1) := Lib.hid (by simp [wordOf, h2])
    rw [h2] at e0
    clear h2
    go_enter Tryz.func157, Tryz.ntmps157
    go_wp2
    go_ret
    rw [HX.out]
    exact ⟨rfl, HB.out⟩
  have k2 : (c.ek == 2) = false := by simp [h2]
  by_cases h3 : c.ek = 3
  · rw [h3] at e0
    by_cases hp : c.ps = []
    · have HX : Hid (wordOf c = verbW 2) := Lib.hid (by simp [wordOf, h3, hp])
      rw [hp] at e4
      simp only [List.length_nil] at e4
      clear h3 hp
      go_enter Tryz.func157, Tryz.ntmps157
      go_wp2
      go_ret
      rw [HX.out]
      exact ⟨rfl, HB.out⟩
    · have HX : Hid (wordOf c = verbW 3) := Lib.hid (by simp [wordOf, h3, hp])
      have hl : 0 < c.ps.length := List.length_pos_iff.2 hp
      have hl2 : (0 : Int) < (c.ps.length : Int) := by omega
      clear h3 hp
      go_enter Tryz.func157, Tryz.ntmps157
      go_wp2
      go_ret
      rw [HX.out]
      exact ⟨rfl, HB.out⟩
  have k3 : (c.ek == 3) = false := by simp [h3]
  by_cases h4 : c.ek = 4
  · have HX : Hid (wordOf c = verbW 4) := Lib.hid (by simp [wordOf, h4])
    rw [h4] at e0
    clear h4
    go_enter Tryz.func157, Tryz.ntmps157
    go_wp2
    go_ret
    rw [HX.out]
    exact ⟨rfl, HB.out⟩
  have k4 : (c.ek == 4) = false := by simp [h4]
  by_cases h5 : c.ek = 5
  · have HX : Hid (wordOf c = verbW 5) := Lib.hid (by simp [wordOf, h5])
    rw [h5] at e0
    clear h5
    go_enter Tryz.func157, Tryz.ntmps157
    go_wp2
    go_ret
    rw [HX.out]
    exact ⟨rfl, HB.out⟩
  have k5 : (c.ek == 5) = false := by simp [h5]
  by_cases h6 : c.ek = 6
  · have HX : Hid (wordOf c = verbW 6) := Lib.hid (by simp [wordOf, h6])
    rw [h6] at e0
    clear h6
    go_enter Tryz.func157, Tryz.ntmps157
    go_wp2
    go_ret
    rw [HX.out]
    exact ⟨rfl, HB.out⟩
  have k6 : (c.ek == 6) = false := by simp [h6]
  by_cases h7 : c.ek = 7
  · have HX : Hid (wordOf c = verbW 7) := Lib.hid (by simp [wordOf, h7])
    rw [h7] at e0
    clear h7
    go_enter Tryz.func157, Tryz.ntmps157
    go_wp2
    go_ret
    rw [HX.out]
    exact ⟨rfl, HB.out⟩
  have k7 : (c.ek == 7) = false := by simp [h7]
  by_cases h8 : c.ek = 8
  · have HX : Hid (wordOf c = verbW 8) := Lib.hid (by simp [wordOf, h8])
    rw [h8] at e0
    clear h8
    go_enter Tryz.func157, Tryz.ntmps157
    go_wp2
    go_ret
    rw [HX.out]
    exact ⟨rfl, HB.out⟩
  have k8 : (c.ek == 8) = false := by simp [h8]
  have HX : Hid (wordOf c = verbW 9) := Lib.hid (by simp [wordOf, h1, h2, h3, h4, h5, h6, h7, h8])
  clear h1 h2 h3 h4 h5 h6 h7 h8
  go_enter Tryz.func157, Tryz.ntmps157
  go_wp2
  go_ret
  rw [HX.out]
  exact ⟨rfl, HB.out⟩

set_option maxRecDepth 100000 in
set_option maxHeartbeats 4000000 in
theorem rlineE_any (c : C) (hf : FitC c) (pa : Option Addr) (pc : Nat) (w : World) (hE : Env w) (hv : IsVs w pa c.ps) : Calls Tryz.prog 135 #[.agg #[.int .i64 c.ek, .int .i64 c.ec, .int .i64 c.es, .string c.sql, .slice pa c.ps.length pc]] w (Ret w (.string ⟨(lineE c).toArray⟩)) := by
  obtain ⟨W0, hW0⟩ : ∃ W0, w.alloc (.cells #[.int .i64 c.ek, .int .i64 c.ec, .int .i64 c.es, .string c.sql, .slice pa c.ps.length pc] 42) = W0 := ⟨_, rfl⟩
  have HB : Hid (Below w.heap.size w W0) := Lib.hid (by rw [← hW0]; exact below_alloc _ _)
  have HD : Hid (Blk W0 w.heap.size #[.int .i64 c.ek, .int .i64 c.ec, .int .i64 c.es, .string c.sql, .slice pa c.ps.length pc] 42) := Lib.hid (by rw [← hW0]; exact Blk.new _ _ _)
  have HE := Lib.hid hE
  have HVs := Lib.hid hv
  have HNc := Lib.hid (fun w' hE => Num_any c.ec hf.ec w' hE)
  have HNs := Lib.hid (fun w' hE => Num_any c.es hf.es w' hE)
  have HLi := Lib.hid (fun w' hE h => Literals_any pa c.ps.length pc c.ps rfl (by have := hf.psl; omega) hf.fps w' hE h)
  have hSl := fun w' => rslot_gen c.ek w'
  have n1 := numT_len hf.ec
  have n2 := numT_len hf.es
  have n3 := hf.lits
  have n4 := hf.sql
  have n5 : (wordOf c).length ≤ 10 := by unfold wordOf; repeat' split
                                         all_goals exact verbW_len _
  obtain ⟨e0, e1, e2, e3, e4⟩ := Blk.c5_ HD.out
  clear hE hv hf
  by_cases h9 : c.ek = 9
  · have HX : Hid (lineE c = wordOf c) := Lib.hid (by simp [lineE, h9])
    have k9 : (c.ek == 9) = true := by simp [h9]
    clear h9 hSl
    go_enter Tryz.func135, Tryz.ntmps135
    go_wp2_with ((go_at_call 157; refine (rword_any c pa pc _).mono ?_; rintro e w1 ⟨rfl, hb1⟩; have HB1 := Lib.hid (bthn HB.out hb1); obtain ⟨e0, e1, e2, e3, e4⟩ := Blk.c5_ (Blk.below HD.out hb1)))
    go_ret
    rw [HX.out]
    exact ⟨rfl, HB1.out⟩
  have k9 : (c.ek == 9) = false := by simp [h9]
  by_cases hp : c.ps = []
  · have hl : ¬ (0 : Int) < (c.ps.length : Int) := by simp [hp]
    by_cases h3 : c.ek = 3
    · have HX : Hid (lineE c = wordOf c ++ numT c.ec ++ 32 :: c.sql.data.toList) := Lib.hid (by simp [lineE, slotK, h3, hp])
      have hs : slotK c.ek = false := by simp [slotK, h3]
      rw [hs] at hSl
      have HSl := Lib.hid hSl
      have k3 : (c.ek == 3) = true := by simp [h3]
      clear h9 hp h3 hs hSl
      go_enter Tryz.func135, Tryz.ntmps135
      go_wp2_with (first
        | (go_at_call 157; refine (rword_any c pa pc _).mono ?_; rintro e w1 ⟨rfl, hb1⟩; have HB1 := Lib.hid (bthn HB.out hb1); obtain ⟨e0, e1, e2, e3, e4⟩ := Blk.c5_ (Blk.below HD.out hb1))
        | (go_at_call 60; refine (HNc.out _ (HE.out.below HB1.out)).mono ?_; rintro e w2 ⟨rfl, hb2⟩; have HB2 := Lib.hid (bthn HB1.out hb2); have hb12 := bthn hb1 hb2; obtain ⟨e0, e1, e2, e3, e4⟩ := Blk.c5_ (Blk.below HD.out hb12))
        | (go_at_call 104; refine (HSl.out _).mono ?_; rintro e w3 ⟨rfl, hb3⟩; have HB3 := Lib.hid (bthn HB2.out hb3); have hb13 := bthn hb12 hb3; obtain ⟨e0, e1, e2, e3, e4⟩ := Blk.c5_ (Blk.below HD.out hb13))
        | (go_at_call 60; refine (HNs.out _ (HE.out.below HB3.out)).mono ?_; rintro e w4 ⟨rfl, hb4⟩; have HB4 := Lib.hid (bthn HB3.out hb4); have hb14 := bthn hb13 hb4; obtain ⟨e0, e1, e2, e3, e4⟩ := Blk.c5_ (Blk.below HD.out hb14))
        | (go_at_call 63; refine (HLi.out _ (HE.out.below (HB4).out) (HVs.out.below (HB4).out)).mono ?_; rintro e w5 ⟨rfl, hb5⟩; have HB5 := Lib.hid (bthn (HB4).out hb5); have e0' := (hb5.cell (lt_of_cell e0)).trans e0; have e3' := (hb5.cell (lt_of_cell e3)).trans e3)
        | (go_at_call 63; refine (HLi.out _ (HE.out.below (HB3).out) (HVs.out.below (HB3).out)).mono ?_; rintro e w5 ⟨rfl, hb5⟩; have HB5 := Lib.hid (bthn (HB3).out hb5); have e0' := (hb5.cell (lt_of_cell e0)).trans e0; have e3' := (hb5.cell (lt_of_cell e3)).trans e3))
      go_ret
      refine ⟨?_, ?_⟩
      · rw [HX.out]
        try rw [show (ByteArray.mk #[32]) = ByteArray.mk [32].toArray from rfl]
        simp only [cat_sql, List.append_assoc, List.cons_append, List.nil_append]
        rfl
      · first
          | exact HB5.out
          | exact HB4.out
          | exact HB3.out
          | exact HB1.out
    have k3 : (c.ek == 3) = false := by simp [h3]
    by_cases h4 : c.ek = 4
    · have HX : Hid (lineE c = wordOf c ++ numT c.ec ++ numT c.es ++ 32 :: c.sql.data.toList) := Lib.hid (by simp [lineE, slotK, h4, hp])
      have hs : slotK c.ek = true := by simp [slotK, h4]
      rw [hs] at hSl
      have HSl := Lib.hid hSl
      have k4 : (c.ek == 4) = true := by simp [h4]
      have k5 : (c.ek == 5) = false := by simp [h4]
      clear h9 hp h3 h4 hs hSl
      go_enter Tryz.func135, Tryz.ntmps135
      go_wp2_with (first
        | (go_at_call 157; refine (rword_any c pa pc _).mono ?_; rintro e w1 ⟨rfl, hb1⟩; have HB1 := Lib.hid (bthn HB.out hb1); obtain ⟨e0, e1, e2, e3, e4⟩ := Blk.c5_ (Blk.below HD.out hb1))
        | (go_at_call 60; refine (HNc.out _ (HE.out.below HB1.out)).mono ?_; rintro e w2 ⟨rfl, hb2⟩; have HB2 := Lib.hid (bthn HB1.out hb2); have hb12 := bthn hb1 hb2; obtain ⟨e0, e1, e2, e3, e4⟩ := Blk.c5_ (Blk.below HD.out hb12))
        | (go_at_call 104; refine (HSl.out _).mono ?_; rintro e w3 ⟨rfl, hb3⟩; have HB3 := Lib.hid (bthn HB2.out hb3); have hb13 := bthn hb12 hb3; obtain ⟨e0, e1, e2, e3, e4⟩ := Blk.c5_ (Blk.below HD.out hb13))
        | (go_at_call 60; refine (HNs.out _ (HE.out.below HB3.out)).mono ?_; rintro e w4 ⟨rfl, hb4⟩; have HB4 := Lib.hid (bthn HB3.out hb4); have hb14 := bthn hb13 hb4; obtain ⟨e0, e1, e2, e3, e4⟩ := Blk.c5_ (Blk.below HD.out hb14))
        | (go_at_call 63; refine (HLi.out _ (HE.out.below (HB4).out) (HVs.out.below (HB4).out)).mono ?_; rintro e w5 ⟨rfl, hb5⟩; have HB5 := Lib.hid (bthn (HB4).out hb5); have e0' := (hb5.cell (lt_of_cell e0)).trans e0; have e3' := (hb5.cell (lt_of_cell e3)).trans e3)
        | (go_at_call 63; refine (HLi.out _ (HE.out.below (HB3).out) (HVs.out.below (HB3).out)).mono ?_; rintro e w5 ⟨rfl, hb5⟩; have HB5 := Lib.hid (bthn (HB3).out hb5); have e0' := (hb5.cell (lt_of_cell e0)).trans e0; have e3' := (hb5.cell (lt_of_cell e3)).trans e3))
      go_ret
      refine ⟨?_, ?_⟩
      · rw [HX.out]
        try rw [show (ByteArray.mk #[32]) = ByteArray.mk [32].toArray from rfl]
        simp only [cat_sql, List.append_assoc, List.cons_append, List.nil_append]
        rfl
      · first
          | exact HB5.out
          | exact HB4.out
          | exact HB3.out
          | exact HB1.out
    have k4 : (c.ek == 4) = false := by simp [h4]
    cases hs : slotK c.ek with
    | false =>
      have HX : Hid (lineE c = wordOf c ++ numT c.ec) := Lib.hid (by simp [lineE, h9, hs, h3, h4, hp])
      rw [hs] at hSl
      have HSl := Lib.hid hSl
      clear h9 hp h3 h4 hs hSl
      go_enter Tryz.func135, Tryz.ntmps135
      go_wp2_with (first
        | (go_at_call 157; refine (rword_any c pa pc _).mono ?_; rintro e w1 ⟨rfl, hb1⟩; have HB1 := Lib.hid (bthn HB.out hb1); obtain ⟨e0, e1, e2, e3, e4⟩ := Blk.c5_ (Blk.below HD.out hb1))
        | (go_at_call 60; refine (HNc.out _ (HE.out.below HB1.out)).mono ?_; rintro e w2 ⟨rfl, hb2⟩; have HB2 := Lib.hid (bthn HB1.out hb2); have hb12 := bthn hb1 hb2; obtain ⟨e0, e1, e2, e3, e4⟩ := Blk.c5_ (Blk.below HD.out hb12))
        | (go_at_call 104; refine (HSl.out _).mono ?_; rintro e w3 ⟨rfl, hb3⟩; have HB3 := Lib.hid (bthn HB2.out hb3); have hb13 := bthn hb12 hb3; obtain ⟨e0, e1, e2, e3, e4⟩ := Blk.c5_ (Blk.below HD.out hb13))
        | (go_at_call 60; refine (HNs.out _ (HE.out.below HB3.out)).mono ?_; rintro e w4 ⟨rfl, hb4⟩; have HB4 := Lib.hid (bthn HB3.out hb4); have hb14 := bthn hb13 hb4; obtain ⟨e0, e1, e2, e3, e4⟩ := Blk.c5_ (Blk.below HD.out hb14))
        | (go_at_call 63; refine (HLi.out _ (HE.out.below (HB4).out) (HVs.out.below (HB4).out)).mono ?_; rintro e w5 ⟨rfl, hb5⟩; have HB5 := Lib.hid (bthn (HB4).out hb5); have e0' := (hb5.cell (lt_of_cell e0)).trans e0; have e3' := (hb5.cell (lt_of_cell e3)).trans e3)
        | (go_at_call 63; refine (HLi.out _ (HE.out.below (HB3).out) (HVs.out.below (HB3).out)).mono ?_; rintro e w5 ⟨rfl, hb5⟩; have HB5 := Lib.hid (bthn (HB3).out hb5); have e0' := (hb5.cell (lt_of_cell e0)).trans e0; have e3' := (hb5.cell (lt_of_cell e3)).trans e3))
      go_ret
      refine ⟨?_, ?_⟩
      · rw [HX.out]
        try rw [show (ByteArray.mk #[32]) = ByteArray.mk [32].toArray from rfl]
        simp only [cat_sql]
        rfl
      · first
          | exact HB5.out
          | exact HB4.out
          | exact HB3.out
          | exact HB1.out
    | true =>
      have HX : Hid (lineE c = wordOf c ++ numT c.ec ++ numT c.es) := Lib.hid (by simp [lineE, h9, hs, h3, h4, hp])
      rw [hs] at hSl
      have HSl := Lib.hid hSl
      clear h9 hp h3 h4 hs hSl
      go_enter Tryz.func135, Tryz.ntmps135
      go_wp2_with (first
        | (go_at_call 157; refine (rword_any c pa pc _).mono ?_; rintro e w1 ⟨rfl, hb1⟩; have HB1 := Lib.hid (bthn HB.out hb1); obtain ⟨e0, e1, e2, e3, e4⟩ := Blk.c5_ (Blk.below HD.out hb1))
        | (go_at_call 60; refine (HNc.out _ (HE.out.below HB1.out)).mono ?_; rintro e w2 ⟨rfl, hb2⟩; have HB2 := Lib.hid (bthn HB1.out hb2); have hb12 := bthn hb1 hb2; obtain ⟨e0, e1, e2, e3, e4⟩ := Blk.c5_ (Blk.below HD.out hb12))
        | (go_at_call 104; refine (HSl.out _).mono ?_; rintro e w3 ⟨rfl, hb3⟩; have HB3 := Lib.hid (bthn HB2.out hb3); have hb13 := bthn hb12 hb3; obtain ⟨e0, e1, e2, e3, e4⟩ := Blk.c5_ (Blk.below HD.out hb13))
        | (go_at_call 60; refine (HNs.out _ (HE.out.below HB3.out)).mono ?_; rintro e w4 ⟨rfl, hb4⟩; have HB4 := Lib.hid (bthn HB3.out hb4); have hb14 := bthn hb13 hb4; obtain ⟨e0, e1, e2, e3, e4⟩ := Blk.c5_ (Blk.below HD.out hb14))
        | (go_at_call 63; refine (HLi.out _ (HE.out.below (HB4).out) (HVs.out.below (HB4).out)).mono ?_; rintro e w5 ⟨rfl, hb5⟩; have HB5 := Lib.hid (bthn (HB4).out hb5); have e0' := (hb5.cell (lt_of_cell e0)).trans e0; have e3' := (hb5.cell (lt_of_cell e3)).trans e3)
        | (go_at_call 63; refine (HLi.out _ (HE.out.below (HB3).out) (HVs.out.below (HB3).out)).mono ?_; rintro e w5 ⟨rfl, hb5⟩; have HB5 := Lib.hid (bthn (HB3).out hb5); have e0' := (hb5.cell (lt_of_cell e0)).trans e0; have e3' := (hb5.cell (lt_of_cell e3)).trans e3))
      go_ret
      refine ⟨?_, ?_⟩
      · rw [HX.out]
        try rw [show (ByteArray.mk #[32]) = ByteArray.mk [32].toArray from rfl]
        simp only [cat_sql, List.append_assoc]
        rfl
      · first
          | exact HB5.out
          | exact HB4.out
          | exact HB3.out
          | exact HB1.out
  · have hl : (0 : Int) < (c.ps.length : Int) := by have := List.length_pos_iff.2 hp; omega
    by_cases h3 : c.ek = 3
    · have HX : Hid (lineE c = wordOf c ++ numT c.ec ++ 32 :: litsT c.ps ++ 32 :: c.sql.data.toList) := Lib.hid (by simp [lineE, slotK, h3, hp])
      have hs : slotK c.ek = false := by simp [slotK, h3]
      rw [hs] at hSl
      have HSl := Lib.hid hSl
      have k3 : (c.ek == 3) = true := by simp [h3]
      clear h9 hp h3 hs hSl
      go_enter Tryz.func135, Tryz.ntmps135
      go_wp2_with (first
        | (go_at_call 157; refine (rword_any c pa pc _).mono ?_; rintro e w1 ⟨rfl, hb1⟩; have HB1 := Lib.hid (bthn HB.out hb1); obtain ⟨e0, e1, e2, e3, e4⟩ := Blk.c5_ (Blk.below HD.out hb1))
        | (go_at_call 60; refine (HNc.out _ (HE.out.below HB1.out)).mono ?_; rintro e w2 ⟨rfl, hb2⟩; have HB2 := Lib.hid (bthn HB1.out hb2); have hb12 := bthn hb1 hb2; obtain ⟨e0, e1, e2, e3, e4⟩ := Blk.c5_ (Blk.below HD.out hb12))
        | (go_at_call 104; refine (HSl.out _).mono ?_; rintro e w3 ⟨rfl, hb3⟩; have HB3 := Lib.hid (bthn HB2.out hb3); have hb13 := bthn hb12 hb3; obtain ⟨e0, e1, e2, e3, e4⟩ := Blk.c5_ (Blk.below HD.out hb13))
        | (go_at_call 60; refine (HNs.out _ (HE.out.below HB3.out)).mono ?_; rintro e w4 ⟨rfl, hb4⟩; have HB4 := Lib.hid (bthn HB3.out hb4); have hb14 := bthn hb13 hb4; obtain ⟨e0, e1, e2, e3, e4⟩ := Blk.c5_ (Blk.below HD.out hb14))
        | (go_at_call 63; refine (HLi.out _ (HE.out.below (HB4).out) (HVs.out.below (HB4).out)).mono ?_; rintro e w5 ⟨rfl, hb5⟩; have HB5 := Lib.hid (bthn (HB4).out hb5); have e0' := (hb5.cell (lt_of_cell e0)).trans e0; have e3' := (hb5.cell (lt_of_cell e3)).trans e3)
        | (go_at_call 63; refine (HLi.out _ (HE.out.below (HB3).out) (HVs.out.below (HB3).out)).mono ?_; rintro e w5 ⟨rfl, hb5⟩; have HB5 := Lib.hid (bthn (HB3).out hb5); have e0' := (hb5.cell (lt_of_cell e0)).trans e0; have e3' := (hb5.cell (lt_of_cell e3)).trans e3))
      go_ret
      refine ⟨?_, ?_⟩
      · rw [HX.out]
        try rw [show (ByteArray.mk #[32]) = ByteArray.mk [32].toArray from rfl]
        simp only [cat_sql, List.append_assoc, List.cons_append, List.nil_append]
        rfl
      · first
          | exact HB5.out
          | exact HB4.out
          | exact HB3.out
          | exact HB1.out
    have k3 : (c.ek == 3) = false := by simp [h3]
    by_cases h5 : c.ek = 5
    · have HX : Hid (lineE c = wordOf c ++ numT c.ec ++ numT c.es ++ 32 :: litsT c.ps) := Lib.hid (by simp [lineE, slotK, h5, hp])
      have hs : slotK c.ek = true := by simp [slotK, h5]
      rw [hs] at hSl
      have HSl := Lib.hid hSl
      have k5 : (c.ek == 5) = true := by simp [h5]
      have k4 : (c.ek == 4) = false := by simp [h5]
      clear h9 hp h3 h5 hs hSl
      go_enter Tryz.func135, Tryz.ntmps135
      go_wp2_with (first
        | (go_at_call 157; refine (rword_any c pa pc _).mono ?_; rintro e w1 ⟨rfl, hb1⟩; have HB1 := Lib.hid (bthn HB.out hb1); obtain ⟨e0, e1, e2, e3, e4⟩ := Blk.c5_ (Blk.below HD.out hb1))
        | (go_at_call 60; refine (HNc.out _ (HE.out.below HB1.out)).mono ?_; rintro e w2 ⟨rfl, hb2⟩; have HB2 := Lib.hid (bthn HB1.out hb2); have hb12 := bthn hb1 hb2; obtain ⟨e0, e1, e2, e3, e4⟩ := Blk.c5_ (Blk.below HD.out hb12))
        | (go_at_call 104; refine (HSl.out _).mono ?_; rintro e w3 ⟨rfl, hb3⟩; have HB3 := Lib.hid (bthn HB2.out hb3); have hb13 := bthn hb12 hb3; obtain ⟨e0, e1, e2, e3, e4⟩ := Blk.c5_ (Blk.below HD.out hb13))
        | (go_at_call 60; refine (HNs.out _ (HE.out.below HB3.out)).mono ?_; rintro e w4 ⟨rfl, hb4⟩; have HB4 := Lib.hid (bthn HB3.out hb4); have hb14 := bthn hb13 hb4; obtain ⟨e0, e1, e2, e3, e4⟩ := Blk.c5_ (Blk.below HD.out hb14))
        | (go_at_call 63; refine (HLi.out _ (HE.out.below (HB4).out) (HVs.out.below (HB4).out)).mono ?_; rintro e w5 ⟨rfl, hb5⟩; have HB5 := Lib.hid (bthn (HB4).out hb5); have e0' := (hb5.cell (lt_of_cell e0)).trans e0; have e3' := (hb5.cell (lt_of_cell e3)).trans e3)
        | (go_at_call 63; refine (HLi.out _ (HE.out.below (HB3).out) (HVs.out.below (HB3).out)).mono ?_; rintro e w5 ⟨rfl, hb5⟩; have HB5 := Lib.hid (bthn (HB3).out hb5); have e0' := (hb5.cell (lt_of_cell e0)).trans e0; have e3' := (hb5.cell (lt_of_cell e3)).trans e3))
      go_ret
      refine ⟨?_, ?_⟩
      · rw [HX.out]
        try rw [show (ByteArray.mk #[32]) = ByteArray.mk [32].toArray from rfl]
        simp only [cat_sql, List.append_assoc, List.cons_append, List.nil_append]
        rfl
      · first
          | exact HB5.out
          | exact HB4.out
          | exact HB3.out
          | exact HB1.out
    have k5 : (c.ek == 5) = false := by simp [h5]
    by_cases h4 : c.ek = 4
    · have HX : Hid (lineE c = wordOf c ++ numT c.ec ++ numT c.es ++ 32 :: c.sql.data.toList) := Lib.hid (by simp [lineE, slotK, h4])
      have hs : slotK c.ek = true := by simp [slotK, h4]
      rw [hs] at hSl
      have HSl := Lib.hid hSl
      have k4 : (c.ek == 4) = true := by simp [h4]
      clear h9 hp h3 h4 h5 hs hSl
      go_enter Tryz.func135, Tryz.ntmps135
      go_wp2_with (first
        | (go_at_call 157; refine (rword_any c pa pc _).mono ?_; rintro e w1 ⟨rfl, hb1⟩; have HB1 := Lib.hid (bthn HB.out hb1); obtain ⟨e0, e1, e2, e3, e4⟩ := Blk.c5_ (Blk.below HD.out hb1))
        | (go_at_call 60; refine (HNc.out _ (HE.out.below HB1.out)).mono ?_; rintro e w2 ⟨rfl, hb2⟩; have HB2 := Lib.hid (bthn HB1.out hb2); have hb12 := bthn hb1 hb2; obtain ⟨e0, e1, e2, e3, e4⟩ := Blk.c5_ (Blk.below HD.out hb12))
        | (go_at_call 104; refine (HSl.out _).mono ?_; rintro e w3 ⟨rfl, hb3⟩; have HB3 := Lib.hid (bthn HB2.out hb3); have hb13 := bthn hb12 hb3; obtain ⟨e0, e1, e2, e3, e4⟩ := Blk.c5_ (Blk.below HD.out hb13))
        | (go_at_call 60; refine (HNs.out _ (HE.out.below HB3.out)).mono ?_; rintro e w4 ⟨rfl, hb4⟩; have HB4 := Lib.hid (bthn HB3.out hb4); have hb14 := bthn hb13 hb4; obtain ⟨e0, e1, e2, e3, e4⟩ := Blk.c5_ (Blk.below HD.out hb14))
        | (go_at_call 63; refine (HLi.out _ (HE.out.below (HB4).out) (HVs.out.below (HB4).out)).mono ?_; rintro e w5 ⟨rfl, hb5⟩; have HB5 := Lib.hid (bthn (HB4).out hb5); have e0' := (hb5.cell (lt_of_cell e0)).trans e0; have e3' := (hb5.cell (lt_of_cell e3)).trans e3)
        | (go_at_call 63; refine (HLi.out _ (HE.out.below (HB3).out) (HVs.out.below (HB3).out)).mono ?_; rintro e w5 ⟨rfl, hb5⟩; have HB5 := Lib.hid (bthn (HB3).out hb5); have e0' := (hb5.cell (lt_of_cell e0)).trans e0; have e3' := (hb5.cell (lt_of_cell e3)).trans e3))
      go_ret
      refine ⟨?_, ?_⟩
      · rw [HX.out]
        try rw [show (ByteArray.mk #[32]) = ByteArray.mk [32].toArray from rfl]
        simp only [cat_sql, List.append_assoc, List.cons_append, List.nil_append]
        rfl
      · first
          | exact HB5.out
          | exact HB4.out
          | exact HB3.out
          | exact HB1.out
    have k4 : (c.ek == 4) = false := by simp [h4]
    cases hs : slotK c.ek with
    | false =>
      have HX : Hid (lineE c = wordOf c ++ numT c.ec) := Lib.hid (by simp [lineE, h9, hs, h3, h4, h5])
      rw [hs] at hSl
      have HSl := Lib.hid hSl
      clear h9 hp h3 h4 h5 hs hSl
      go_enter Tryz.func135, Tryz.ntmps135
      go_wp2_with (first
        | (go_at_call 157; refine (rword_any c pa pc _).mono ?_; rintro e w1 ⟨rfl, hb1⟩; have HB1 := Lib.hid (bthn HB.out hb1); obtain ⟨e0, e1, e2, e3, e4⟩ := Blk.c5_ (Blk.below HD.out hb1))
        | (go_at_call 60; refine (HNc.out _ (HE.out.below HB1.out)).mono ?_; rintro e w2 ⟨rfl, hb2⟩; have HB2 := Lib.hid (bthn HB1.out hb2); have hb12 := bthn hb1 hb2; obtain ⟨e0, e1, e2, e3, e4⟩ := Blk.c5_ (Blk.below HD.out hb12))
        | (go_at_call 104; refine (HSl.out _).mono ?_; rintro e w3 ⟨rfl, hb3⟩; have HB3 := Lib.hid (bthn HB2.out hb3); have hb13 := bthn hb12 hb3; obtain ⟨e0, e1, e2, e3, e4⟩ := Blk.c5_ (Blk.below HD.out hb13))
        | (go_at_call 60; refine (HNs.out _ (HE.out.below HB3.out)).mono ?_; rintro e w4 ⟨rfl, hb4⟩; have HB4 := Lib.hid (bthn HB3.out hb4); have hb14 := bthn hb13 hb4; obtain ⟨e0, e1, e2, e3, e4⟩ := Blk.c5_ (Blk.below HD.out hb14))
        | (go_at_call 63; refine (HLi.out _ (HE.out.below (HB4).out) (HVs.out.below (HB4).out)).mono ?_; rintro e w5 ⟨rfl, hb5⟩; have HB5 := Lib.hid (bthn (HB4).out hb5); have e0' := (hb5.cell (lt_of_cell e0)).trans e0; have e3' := (hb5.cell (lt_of_cell e3)).trans e3)
        | (go_at_call 63; refine (HLi.out _ (HE.out.below (HB3).out) (HVs.out.below (HB3).out)).mono ?_; rintro e w5 ⟨rfl, hb5⟩; have HB5 := Lib.hid (bthn (HB3).out hb5); have e0' := (hb5.cell (lt_of_cell e0)).trans e0; have e3' := (hb5.cell (lt_of_cell e3)).trans e3))
      go_ret
      refine ⟨?_, ?_⟩
      · rw [HX.out]
        try rw [show (ByteArray.mk #[32]) = ByteArray.mk [32].toArray from rfl]
        simp only [cat_sql]
        rfl
      · first
          | exact HB5.out
          | exact HB4.out
          | exact HB3.out
          | exact HB1.out
    | true =>
      have HX : Hid (lineE c = wordOf c ++ numT c.ec ++ numT c.es) := Lib.hid (by simp [lineE, h9, hs, h3, h4, h5])
      rw [hs] at hSl
      have HSl := Lib.hid hSl
      clear h9 hp h3 h4 h5 hs hSl
      go_enter Tryz.func135, Tryz.ntmps135
      go_wp2_with (first
        | (go_at_call 157; refine (rword_any c pa pc _).mono ?_; rintro e w1 ⟨rfl, hb1⟩; have HB1 := Lib.hid (bthn HB.out hb1); obtain ⟨e0, e1, e2, e3, e4⟩ := Blk.c5_ (Blk.below HD.out hb1))
        | (go_at_call 60; refine (HNc.out _ (HE.out.below HB1.out)).mono ?_; rintro e w2 ⟨rfl, hb2⟩; have HB2 := Lib.hid (bthn HB1.out hb2); have hb12 := bthn hb1 hb2; obtain ⟨e0, e1, e2, e3, e4⟩ := Blk.c5_ (Blk.below HD.out hb12))
        | (go_at_call 104; refine (HSl.out _).mono ?_; rintro e w3 ⟨rfl, hb3⟩; have HB3 := Lib.hid (bthn HB2.out hb3); have hb13 := bthn hb12 hb3; obtain ⟨e0, e1, e2, e3, e4⟩ := Blk.c5_ (Blk.below HD.out hb13))
        | (go_at_call 60; refine (HNs.out _ (HE.out.below HB3.out)).mono ?_; rintro e w4 ⟨rfl, hb4⟩; have HB4 := Lib.hid (bthn HB3.out hb4); have hb14 := bthn hb13 hb4; obtain ⟨e0, e1, e2, e3, e4⟩ := Blk.c5_ (Blk.below HD.out hb14))
        | (go_at_call 63; refine (HLi.out _ (HE.out.below (HB4).out) (HVs.out.below (HB4).out)).mono ?_; rintro e w5 ⟨rfl, hb5⟩; have HB5 := Lib.hid (bthn (HB4).out hb5); have e0' := (hb5.cell (lt_of_cell e0)).trans e0; have e3' := (hb5.cell (lt_of_cell e3)).trans e3)
        | (go_at_call 63; refine (HLi.out _ (HE.out.below (HB3).out) (HVs.out.below (HB3).out)).mono ?_; rintro e w5 ⟨rfl, hb5⟩; have HB5 := Lib.hid (bthn (HB3).out hb5); have e0' := (hb5.cell (lt_of_cell e0)).trans e0; have e3' := (hb5.cell (lt_of_cell e3)).trans e3))
      go_ret
      refine ⟨?_, ?_⟩
      · rw [HX.out]
        try rw [show (ByteArray.mk #[32]) = ByteArray.mk [32].toArray from rfl]
        simp only [cat_sql, List.append_assoc]
        rfl
      · first
          | exact HB5.out
          | exact HB4.out
          | exact HB3.out
          | exact HB1.out
end Go.Proofs.YtkkildkleleppaaGreatDoor
