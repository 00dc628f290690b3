/- The law walked: bureaulaw31.DumpReads. The closure that reads a restart. -/
import Derived.Test.YtkkildkleleppaaGreatDoorJ28
import Derived.Test.YtkkildkleleppaaGreatDoorJ15
import Derived.Test.YtkkildkleleppaaGreatDoorJ24
namespace Go.Proofs.YtkkildkleleppaaGreatDoor
open Go.RowKit

theorem params_ge (ps : List V) : ps.length ≤ (paramsT ps).length := by
  induction ps with
  | nil => simp
  | cons v r ih =>
    have e : paramsT (v :: r) = 44 :: v.lit ++ paramsT r := by simp [paramsT]
    rw [e]; simp; omega
theorem part_mem : ∀ {ts : List T} {t : T}, t ∈ ts → t.part.length ≤ (flatT ts).length
  | [], _, h => by cases h
  | u :: ts, t, h => by
    have e : flatT (u :: ts) = u.part ++ flatT ts := by simp [flatT]
    rw [e, List.length_append]
    rcases List.mem_cons.1 h with rfl | h
    · omega
    · have := part_mem h; omega
theorem read_bound {l : List UInt8} {ts : List T} (h : readS (l.length + 1) l 0 = .ok ts) : ts.length ≤ l.length ∧ ∀ t ∈ ts, t.ps.length ≤ l.length := by
  obtain ⟨-, -, hf⟩ := readS_sound _ _ _ _ (Nat.zero_le _) h
  rw [List.drop_zero] at hf
  rw [hf]
  refine ⟨flatT_ge ts, fun t ht => ?_⟩
  have h1 := part_mem ht
  have h2 := params_ge t.ps
  have h3 : (paramsT t.ps).length ≤ t.part.length := by simp [T.part]; omega
  omega

set_option maxRecDepth 100000 in
set_option maxHeartbeats 1000000 in
theorem reads_any (s : ByteArray) (hs : s.size ≤ 16777216) (w : World) (hE : Env w) : Calls Tryz.prog 4 #[.string s] w (Ret w (.bool true)) := by
  have HE := Lib.hid hE
  have HD := Lib.hid (fun w' hE => dread_any s (by omega) w' hE)
  have HR := Lib.hid (fun w' hE => refread_any s hs w' hE)
  unfold DRead at HD HR
  cases ho : readS (s.data.toList.length + 1) s.data.toList 0 with
  | error k =>
    rw [ho] at HD HR
    unfold DReadO at HD HR
    clear ho hE
    have HS := Lib.hid (fun w' => Same_any none 0 0 [] rfl none 0 0 [] rfl (by decide) (by decide) (by intro t ht; cases ht) (by intro t ht; cases ht) w' (.inl rfl) (.inl rfl))
    rw [sameTs_self] at HS
    go_enter Tryz.func4, Tryz.ntmps4
    go_wp2_with (first
      | (go_at_call 13; refine (HD.out _ HE.out).mono ?_; rintro e w1 ⟨rfl, hb1⟩; have HB1 := Lib.hid hb1)
      | (go_at_call 14; refine (HR.out _ (HE.out.below HB1.out)).mono ?_; rintro e w2 ⟨rfl, hb2⟩; have HB2 := Lib.hid (HB1.out.trans (hb2.mono HB1.out.size)))
      | (go_at_call 12; refine (head31_any _ (HE.out.below HB2.out)).mono ?_; rintro e w3 ⟨rfl, hb3⟩; have HB3 := Lib.hid (HB2.out.trans (hb3.mono HB2.out.size)))
      | (go_at_call 15; refine (HS.out _).mono ?_; rintro e w4 ⟨rfl, hb4⟩; have HB4 := Lib.hid (HB3.out.trans (hb4.mono HB3.out.size))))
    go_ret
    exact ⟨rfl, HB4.out⟩
  | ok ts =>
    obtain ⟨q1, q2⟩ := read_bound ho
    rw [size_len] at q1
    have q3 : ∀ t ∈ ts, t.ps.length ≤ 100000000 := fun t ht => by have := q2 t ht; rw [size_len] at this; omega
    rw [ho] at HD HR
    unfold DReadO at HD HR
    clear ho hE
    have HS := Lib.hid (fun a c a' c' w' h h' => Same_any a ts.length c ts rfl a' ts.length c' ts rfl (by omega) (by omega) q3 q3 w' h h')
    rw [sameTs_self] at HS
    clear q1 q2 q3
    go_enter Tryz.func4, Tryz.ntmps4
    go_wp2_with (first
      | (go_at_call 13; refine (HD.out _ HE.out).mono ?_; rintro e w1 ⟨v, xs, rfl, ho1, ht1, hb1⟩; have HB1 := Lib.hid hb1; obtain ⟨a1, c1, hv, hx⟩ := own_form ho1; clear hx; subst hv; have HT1 := Lib.hid (own_ts ho1 ht1); clear ho1 ht1)
      | (go_at_call 14; refine (HR.out _ (HE.out.below HB1.out)).mono ?_; rintro e w2 ⟨v2, xs2, rfl, ho2, ht2, hb2⟩; have HB2 := Lib.hid (HB1.out.trans (hb2.mono HB1.out.size)); have HT1' := Lib.hid (HT1.out.below hb2); obtain ⟨a2, c2, hv2, hx2⟩ := own_form ho2; clear hx2; subst hv2; have HT2 := Lib.hid (own_ts ho2 ht2); clear ho2 ht2)
      | (go_at_call 12; refine (head31_any _ (HE.out.below HB2.out)).mono ?_; rintro e w3 ⟨rfl, hb3⟩; have HB3 := Lib.hid (HB2.out.trans (hb3.mono HB2.out.size)); have HT3 := Lib.hid (And.intro (HT1'.out.below hb3) (HT2.out.below hb3)))
      | (go_at_call 15; refine (HS.out a1 c1 a2 c2 _ HT3.out.1 HT3.out.2).mono ?_; rintro e w4 ⟨rfl, hb4⟩; have HB4 := Lib.hid (HB3.out.trans (hb4.mono HB3.out.size))))
    go_ret
    exact ⟨rfl, HB4.out⟩
end Go.Proofs.YtkkildkleleppaaGreatDoor
namespace Go.Proofs.YtkkildkleleppaaGreatDoor
open Go.RowKit


theorem infoJ : (Tryz.prog.info? 3).map (fun i => (i.zero, i.size, i.bytes)) = some (some (.int .i64 0), 1, 8) := by kernel_rfl

/-! ### The loop over the numbers, plainly -/
theorem cutX_less (p : Bool) : ∀ (l : List UInt8) (q : Bool), (cutX p q l).2.2 = true → (cutX p q l).2.1.length < l.length
  | [], q, h => by simp [cutX] at h
  | c :: r, q, h => by
    simp only [cutX] at h ⊢
    split
    · simp
    · rename_i hc
      rw [if_neg hc] at h
      have := cutX_less p r _ h
      simp; omega
theorem num_less {s s' : St} {n : Int} (h : numS s = some (n, s')) (hm : s'.2 = true) : s'.1.length < s.1.length := by
  unfold numS at h
  split at h
  · cases h
  · rename_i x hx
    cases hn : numO x.1 with
    | none => rw [hn] at h; cases h
    | some m =>
      rw [hn] at h
      simp only [Option.map_some, Option.some.injEq, Prod.mk.injEq] at h
      obtain ⟨-, rfl⟩ := h
      unfold wordS at hx
      split at hx
      · injection hx with hx
        subst hx
        exact cutX_less true _ _ hm
      · cases hx
def RE (s0 s : St) (acc : List Int) : Prop := ∃ f, choicesR (s0.1.length + 2) s0 = (choicesR f s).map (acc ++ ·) ∧ (s.2 = true → s.1.length + 2 ≤ f) ∧ 1 ≤ f
theorem RE.start (s0 : St) : RE s0 s0 [] := ⟨_, by simp, fun _ => Nat.le_refl _, by omega⟩
section
variable {s0 s : St} {acc : List Int}
theorem RE.step {n : Int} {s' : St} (h : RE s0 s acc) (hs : s.2 = true) (hn : numS s = some (n, s')) : RE s0 s' (acc ++ [n]) := by
  obtain ⟨f, h1, h2, h3⟩ := h
  have h4 := h2 hs
  obtain ⟨f, rfl⟩ : ∃ g, f = g + 1 := ⟨f - 1, by omega⟩
  refine ⟨f, ?_, fun hm => ?_, by omega⟩
  · rw [h1, choicesR, if_pos hs, hn]
    simp only
    cases choicesR f s' <;> simp
  · have := num_less hn hm
    omega
theorem RE.none (h : RE s0 s acc) (hs : s.2 = true) (hn : numS s = none) : choicesR (s0.1.length + 2) s0 = none := by
  obtain ⟨f, h1, h2, h3⟩ := h
  obtain ⟨f, rfl⟩ : ∃ g, f = g + 1 := ⟨f - 1, by omega⟩
  rw [h1, choicesR, if_pos hs, hn]
  rfl
theorem RE.done (h : RE s0 s acc) (hs : s.2 = false) : choicesR (s0.1.length + 2) s0 = some acc := by
  obtain ⟨f, h1, h2, h3⟩ := h
  obtain ⟨f, rfl⟩ : ∃ g, f = g + 1 := ⟨f - 1, by omega⟩
  rw [h1, choicesR, if_neg (by simp [hs])]
  simp
end

/-! ### Memory -/
/-- An act's variable: a restart. -/
def ABox (w : World) (g : Nat) (lg : Bool) (cv : Value) : Prop := Blk w g #[.int .i64 5, .int .i64 0, .int .i64 0, .int .i64 0, .string ⟨#[]⟩, .slice none 0 0, .int .i64 0, .bool lg, cv] 45
theorem ABox.cells {w : World} {g : Nat} {lg : Bool} {cv : Value} (h : ABox w g lg cv) : w.cell? ⟨g, 0, none⟩ = some (.int .i64 5) ∧ w.cell? ⟨g, 1, none⟩ = some (.int .i64 0) ∧ w.cell? ⟨g, 2, none⟩ = some (.int .i64 0) ∧ w.cell? ⟨g, 3, none⟩ = some (.int .i64 0) ∧
    w.cell? ⟨g, 4, none⟩ = some (.string ⟨#[]⟩) ∧ w.cell? ⟨g, 5, none⟩ = some (.slice none 0 0) ∧ w.cell? ⟨g, 6, none⟩ = some (.int .i64 0) ∧ w.cell? ⟨g, 7, none⟩ = some (.bool lg) ∧ w.cell? ⟨g, 8, none⟩ = some cv :=
  ⟨Blk.cell h 0, Blk.cell h 1, Blk.cell h 2, Blk.cell h 3, Blk.cell h 4, Blk.cell h 5, Blk.cell h 6, Blk.cell h 7, Blk.cell h 8⟩
structure RM (w W0 wr : World) (b : Nat) (s : St) (lg : Bool) (cv : Value) (acc : List Int) : Prop where
  rd : IsQ wr b s
  mv : Moved b W0 wr
  ab : ABox wr W0.heap.size lg cv
  own : wr.ownsRow W0.heap.size 3 1 cv acc.length (jcells acc)
  rb : CBox wr w.heap.size
  bw : b < w.heap.size
  wz : w.heap.size < W0.heap.size
section
variable {w W0 wr wr' : World} {b : Nat} {s s' : St} {lg : Bool} {cv cv' : Value} {acc : List Int}
theorem RM.moved (h : RM w W0 wr b s lg cv acc) (hq : IsQ wr' b s') (hm : Moved b wr wr') : RM w W0 wr' b s' lg cv acc :=
  ⟨hq, h.mv.trans hm, h.ab.moved hm (by have := h.bw; have := h.wz; omega), own_moved h.own hm (own_far h.own (by have := h.bw; have := h.wz; omega)), h.rb.moved hm (by have := h.bw; omega), h.bw, h.wz⟩
theorem RM.below (h : RM w W0 wr b s lg cv acc) (hb : Below wr.heap.size wr wr') : RM w W0 wr' b s lg cv acc := h.moved (h.rd.below hb) (Moved.of_below hb)
theorem RM.drew (h : RM w W0 wr b s lg cv acc) : RM w W0 wr.drew b s lg cv acc := h.moved h.rd (Moved.refl _ _).drew
theorem RM.alloc (h : RM w W0 wr b s lg cv acc) (o : Obj) : RM w W0 (wr.alloc o) b s lg cv acc := h.below (below_alloc _ _)
theorem RM.push {n : Int} (h : RM w W0 wr b s lg cv acc) (ho : wr'.ownsRow W0.heap.size 3 1 cv' (acc.length + 1) (jcells acc ++ [.int .i64 n])) (hg : wr.grownBy wr' cv.ownBlock) :
    RM w W0 (wr'.setCell ⟨W0.heap.size, 8, none⟩ cv') b s lg cv' (acc ++ [n]) := by
  have hab : ABox wr' W0.heap.size lg cv := Blk.grown h.ab h.own hg (by decide)
  have hrb : CBox wr' w.heap.size := Blk.grown h.rb h.own hg (by decide)
  have hbl : ∀ g, cv.ownBlock = some g → W0.heap.size ≤ g := fun g e => (h.own.lt g e).1
  have hbb := h.bw
  have hwz := h.wz
  have hq : IsQ wr' b s := by
    have hk := hg.block b h.rd.lt (fun e => by have := hbl b e.symm; omega)
    refine ⟨?_, ?_, ?_, ?_⟩
    · have := h.rd.1; unfold World.cell? at *; rw [hk]; exact this
    · have := h.rd.2.1; unfold World.cell? at *; rw [hk]; exact this
    · have := h.rd.2.2.1; exact (World.frozen?_of_block (w := wr) (w' := wr') (a := ⟨b, 0, none⟩) hk).trans this
    · have := h.rd.2.2.2; exact (World.frozen?_of_block (w := wr) (w' := wr') (a := ⟨b, 1, none⟩) hk).trans this
  refine ⟨hq.setO (by simp only; omega) _, ?_, Blk.set hab 8 cv', ?_, hrb.setO (by simp only; omega) _, hbb, hwz⟩
  · have hm1 : Moved b W0 wr' := ⟨hg.os.trans h.mv.os, hg.tape.trans h.mv.tape, hg.output.trans h.mv.output, Nat.le_trans h.mv.size hg.size, fun k hk hne =>
      (hg.block k (Nat.lt_of_lt_of_le hk h.mv.size) (fun e => by have := hbl k e.symm; omega)).trans (h.mv.block k hk hne)⟩
    exact hm1.setO (Nat.le_refl _) _
  · have e : (acc ++ [n]).length = acc.length + 1 := by simp
    rw [e, jcells_append]
    exact Blk.own_set hab ho (by decide) 8 cv'
end

set_option maxRecDepth 100000 in
set_option maxHeartbeats 4000000 in
theorem restart_any (b : Nat) (s : St) (hs : s.1.length ≤ 100000000) (w : World) (hE : EnvB b w) (hq : IsQ w b s) :
    Calls Tryz.prog 98 #[.pointer (some ⟨b, 0, none⟩)] w (VerbE b w (words (restartR s))) := by
  obtain ⟨W0, hW0⟩ : ∃ W0, w.alloc (.cells #[.int .i64 0, .int .i64 0, .int .i64 0, .int .i64 0, .int .i64 0, .string ⟨#[]⟩, .slice none 0 0, .int .i64 0, .bool false, .slice none 0 0, .int .i64 0, .slice none 0 0] 47) = W0 := ⟨_, rfl⟩
  have HD : Hid (Made w W0) := Lib.hid (by rw [← hW0]; exact Made.of w)
  have hbl := hq.lt
  have HM0 : Hid (Moved b w W0) := Lib.hid (Moved.of_below HD.out.bl)
  have HQ0 : Hid (IsQ W0 b s) := Lib.hid (hq.below HD.out.bl)
  have HE0 : Hid (EnvB b W0) := Lib.hid (hE.moved HM0.out)
  have HWz : Hid (w.heap.size < W0.heap.size) := Lib.hid (by have := HD.out.size; omega)
  have HW := fun w' h he => word_any b s hs w' h he
  clear hq hE
  cases hw : wordS s with
  | none =>
    have HX : Hid (words (restartR s) = .error 421) := Lib.hid (by simp [restartR, hw, words])
    rw [hw] at HW
    have HW := Lib.hid HW
    clear hw
    go_enter Tryz.func98, Tryz.ntmps98
    go_wp2_with (go_at_call 134; refine (HW.out _ (HQ0.out.alloc _) (HE0.out.moved ((Moved.refl _ _).alloc _))).mono ?_; rintro e w1 ⟨rfl, hm1⟩)
    refine ⟨rfl, ?_⟩
    exact VerbE.no HX.out ((HM0.out.alloc _).trans hm1)
  | some x =>
    obtain ⟨x, s1⟩ := x
    have hl1 := Nat.le_trans (word_len hw).2 hs
    rw [hw] at HW
    have HW := Lib.hid HW
    by_cases hx : x = logW ∨ x = journalW
    · have hR : words (restartR s) = words ((choicesR (s1.1.length + 2) s1).map fun l => (C.act 5 0 (decide (x = logW)) l, false)) := by simp [restartR, hw, hx]
      have HRE := Lib.hid (RE.start s1)
      clear hw
      rcases hx with rfl | rfl
      · rw [decide_eq_true (rfl : logW = logW)] at hR
        have hlw : logW = [108, 111, 103] := rfl
        go_enter Tryz.func98, Tryz.ntmps98
        go_wp2_with (go_at_call 134; refine (HW.out _ (HQ0.out.alloc _) (HE0.out.moved ((Moved.refl _ _).alloc _))).mono ?_; rintro e w1 ⟨rfl, hq1, hm1⟩; have HA1 : Hid (ABox w1 W0.heap.size false (.slice none 0 0)) := Lib.hid (Blk.moved (Blk.new _ _ _) hm1 (by have := HWz.out; omega)); obtain ⟨c0, c1, c2, c3, c4, c5, c6, c7, c8⟩ := ABox.cells HA1.out; have f7 := Blk.free HA1.out 7)
        have HRM : Hid (RM w W0 (w1.setCell ⟨W0.heap.size, 7, none⟩ (.bool true)) b s1 true (.slice none 0 0) []) := Lib.hid
          ⟨hq1.setO (by have := HWz.out; simp only; omega) _, (((Moved.refl b W0).alloc _).trans hm1).setO (Nat.le_refl _) _, Blk.set HA1.out 7 _, World.ownsRow_nil _ _ _ _, Blk.setO (Blk.moved (Blk.alloc HD.out.bx _) hm1 (by omega)) (by have := HWz.out; simp only; omega) _, hbl, HWz.out⟩
        have hbd : ([] : List Int).length + (if s1.2 = true then s1.1.length + 1 else 0) ≤ s1.1.length + 1 := by simp; split <;> omega
        go_loopw [] (fun wr => ∃ (s2 : St) (cv : Value) (acc : List Int), s2.1.length ≤ 100000000 ∧ acc.length + (if s2.2 = true then s2.1.length + 1 else 0) ≤ s1.1.length + 1 ∧ Hid (RM w W0 wr b s2 true cv acc) ∧ Hid (RE s1 s2 acc)) (fun wr => match wr.cell? ⟨b, 1, none⟩ with | some (.bool true) => (match wr.cell? ⟨b, 0, none⟩ with | some (.string x) => x.size + 1 | _ => 0) | _ => 0)
        case atStart => exact ⟨s1, _, [], hl1, hbd, HRM, HRE⟩
        case round =>
          obtain ⟨⟨l, m⟩, cv, acc, hl2, hac, H, HE⟩ := hrel
          obtain ⟨va, vc, he, -, -, -⟩ := own_form H.out.own
          subst he
          obtain ⟨q0, q1, -, -⟩ := H.out.rd
          obtain ⟨d0, d1, d2, d3, d4, d5, d6, d7, d8⟩ := ABox.cells H.out.ab
          simp only at hl2 hac q0 q1
          cases m with
          | true =>
            simp only [if_true] at hac
            have HNn := number_any b (l, true) hl2 wr.drew H.out.drew.rd (HE0.out.moved H.out.drew.mv)
            cases hn : numS (l, true) with
            | none =>
              have HX : Hid (words (restartR s) = .error 421) := Lib.hid (by rw [hR, HE.out.none rfl hn]; rfl)
              rw [hn] at HNn
              have HNn := Lib.hid HNn
              clear hn hR
              go_wp2_with fail
              refine wp_region_held_drew (S := fun w' => w'.cell? ⟨W0.heap.size, 8, none⟩ = some (.slice va acc.length vc)) (by kernel_rfl) d8 (fun hHeld => ?_)
              (refine wpAnyH_take (i := 0) (v := (.pointer (some ⟨W0.heap.size, 8, none⟩))) rfl (by kernel_rfl) (by kernel_rfl) (by kernel_rfl) (fun _ _ _ h => h) (Or.inl ⟨by rfl, by intro w hSw; go_simp; try with_reducible rfl⟩) (by assumption) ?_; simp only [List.getElem_toArray, List.getElem_cons_zero, Act.put, List.setIfInBounds_toArray, List.set_cons_succ, List.set_cons_zero])
              (refine wpAnyH_take (i := 1) (v := (.slice va acc.length vc)) rfl (by kernel_rfl) (by kernel_rfl) (by kernel_rfl) (fun _ _ _ h => h) (Or.inl ⟨by rfl, by intro w hSw; go_simp; try with_reducible rfl⟩) (by assumption) ?_; simp only [List.getElem_toArray, List.getElem_cons_succ, List.getElem_cons_zero, Act.put, List.setIfInBounds_toArray, List.set_cons_succ, List.set_cons_zero])
              (refine wpAnyH_take (i := 2) (v := (.pointer (some ⟨b, 0, none⟩))) rfl (by kernel_rfl) (by kernel_rfl) (by kernel_rfl) (fun _ _ _ h => h) (Or.inl ⟨by rfl, by intro w hSw; go_simp; try with_reducible rfl⟩) (by assumption) ?_; simp only [List.getElem_toArray, List.getElem_cons_succ, List.getElem_cons_zero, Act.put, List.setIfInBounds_toArray, List.set_cons_succ, List.set_cons_zero])
              refine wpAnyH_ready (rs := [3]) (by kernel_rfl) (by simp) (AllReadyH.cons rfl (fun K' hK => ?_) AllReadyH.nil)
              go_simp
              exact HNn.out.mono (fun e w5 hh => by obtain ⟨rfl, hm5⟩ := hh; exact ⟨rfl, VerbE.no HX.out (HM0.out.trans (H.out.drew.mv.trans hm5))⟩)
            | some y =>
              obtain ⟨n, s3⟩ := y
              have HE1 := Lib.hid (HE.out.step rfl hn)
              have hl3 : s3.1.length ≤ 100000000 := Nat.le_trans (num_len hn) hl2
              have hls := num_less hn
              simp only at hls
              have hac3 : (acc ++ [n]).length + (if s3.2 = true then s3.1.length + 1 else 0) ≤ s1.1.length + 1 := by
                simp only [List.length_append, List.length_cons, List.length_nil]
                split
                · have := hls (by assumption); omega
                · omega
              have hms : (if s3.2 = true then s3.1.length + 1 else 0) < l.length + 1 := by
                split
                · have := hls (by assumption); omega
                · omega
              have HMS := Lib.hid hms
              have HA3 := Lib.hid hac3
              rw [hn] at HNn
              have HNn := Lib.hid HNn
              have hacb : acc.length ≤ 100000000 := by omega
              clear hn hls hms hac3
              go_wp2_with fail
              go_region_law
                (first
                  | (go_simp; go_at_call 127; refine HNn.out.mono ?_; rintro e w5 ⟨rfl, hq5, hm5⟩; have H5 := Lib.hid (H.out.drew.moved hq5 hm5); obtain ⟨e0, e1, e2, e3, e4, e5, e6, e7, e8⟩ := ABox.cells H5.out.ab; have t8 := fun o => (ABox.cells (H5.out.alloc o).ab).2.2.2.2.2.2.2.2)
                  | (refine step_append_any (w5.alloc (.cells #[.int .i64 n] 3)) rfl (.tmp 18) (.tmp 21) _ (by rfl) W0.heap.size _ _ 1 8 Tryz.underlying43 infoJ rfl (by decide) (by decide) _ acc.length (jcells acc) (by rfl) (H5.out.alloc _).own _ 1 1 [.int .i64 n] (by rfl) ⟨rfl, fun _ => ⟨_, rfl, cells_new w5 _ _ _ rfl⟩⟩ (by intro u hu; simp only [List.mem_cons, List.not_mem_nil, or_false] at hu; rcases hu with rfl; rfl) (by omega) (by have := H5.out.mv.size; simp; omega) ?_; intro v6 w6 hown6 hg6; obtain ⟨pa6, pc6, he6, -, -, -⟩ := own_form hown6; subst he6; have H6 := Lib.hid ((H5.out.alloc (.cells #[.int .i64 n] 3)).push hown6 hg6); have B6 := Lib.hid (Blk.grown (H5.out.alloc (.cells #[.int .i64 n] 3)).ab (H5.out.alloc (.cells #[.int .i64 n] 3)).own hg6 (by decide)); have s8 := Blk.cell B6.out 8; have y8 := Blk.free B6.out 8))
              all_goals
                go_roundw
                case rel => first | exact ⟨s3, _, acc ++ [n], hl3, HA3.out, H6, HE1⟩ | ((repeat apply Exists.intro); exact ⟨⟨s3, _, acc ++ [n], hl3, HA3.out, H6, HE1⟩, rfl⟩)
                case measure =>
                  obtain ⟨p0, p1, -, -⟩ := H6.out.rd
                  rw [p0, p1, q0, q1]
                  have := HMS.out
                  cases hs3 : s3.2 <;> simp [hs3, ByteArray.size] at this ⊢ <;> omega
          | false =>
            have HX : Hid (words (restartR s) = .ok (C.act 5 0 true acc, false)) := Lib.hid (by rw [hR, HE.out.done rfl]; rfl)
            have HAc := Lib.hid (fun w' => act_any 5 0 0 0 0 ByteArray.empty none va 0 0 acc.length vc true w')
            clear hR
            go_wp2_with (go_at_call 96; refine (HAc.out _).mono ?_; rintro e w6 ⟨rfl, hb6⟩; have H6 := Lib.hid (H.out.below hb6); obtain ⟨r0, r1, r2, r3, r4, r5, r6, r7, r8, r9, r10, r11⟩ := CBox.cells H6.out.rb; obtain ⟨g0, g1, g2, g3, g4, g5, g6, g7, g8, g9, g10, g11⟩ := CBox.free H6.out.rb)
            refine bodyPost_ret (by simp [results, Tryz.results98, go_sem, r0, r1, r2, r3, r4, r5, r6, r7, r8, r9, r10, r11]; try rfl) rfl ?_
            refine VerbE.fin (W0 := W0) (w4 := w6) (l := l) HX.out ⟨_, _, _, [], rfl, World.ownsRow_nil _ _ _ _, H6.out.own, World.ownsRow_nil _ _ _ _, TRow.nil_ _ _ _⟩ H6.out.rb H6.out.rd hl2 (HM0.out.trans H6.out.mv) hbl (by have := HD.out.size; omega) ?_
            exact ((((((((((((Moved.set w.heap.size 0 _ _).trans (Moved.set w.heap.size 1 _ _)).trans (Moved.set w.heap.size 2 _ _)).trans (Moved.set w.heap.size 3 _ _)).trans (Moved.set w.heap.size 4 _ _)).trans (Moved.set w.heap.size 5 _ _)).trans (Moved.set w.heap.size 6 _ _)).trans (Moved.set w.heap.size 7 _ _)).trans (Moved.set w.heap.size 8 _ _)).trans (Moved.set w.heap.size 9 _ _)).trans (Moved.set w.heap.size 10 _ _)).trans (Moved.set w.heap.size 11 _ _))
      · rw [decide_eq_false (by decide : journalW ≠ logW)] at hR
        have hlw : journalW = [106, 111, 117, 114, 110, 97, 108] := rfl
        go_enter Tryz.func98, Tryz.ntmps98
        go_wp2_with (go_at_call 134; refine (HW.out _ (HQ0.out.alloc _) (HE0.out.moved ((Moved.refl _ _).alloc _))).mono ?_; rintro e w1 ⟨rfl, hq1, hm1⟩; have HA1 : Hid (ABox w1 W0.heap.size false (.slice none 0 0)) := Lib.hid (Blk.moved (Blk.new _ _ _) hm1 (by have := HWz.out; omega)))
        have HRM : Hid (RM w W0 w1 b s1 false (.slice none 0 0) []) := Lib.hid
          ⟨hq1, ((Moved.refl b W0).alloc _).trans hm1, HA1.out, World.ownsRow_nil _ _ _ _, Blk.moved (Blk.alloc HD.out.bx _) hm1 (by omega), hbl, HWz.out⟩
        have hbd : ([] : List Int).length + (if s1.2 = true then s1.1.length + 1 else 0) ≤ s1.1.length + 1 := by simp; split <;> omega
        go_loopw [] (fun wr => ∃ (s2 : St) (cv : Value) (acc : List Int), s2.1.length ≤ 100000000 ∧ acc.length + (if s2.2 = true then s2.1.length + 1 else 0) ≤ s1.1.length + 1 ∧ Hid (RM w W0 wr b s2 false cv acc) ∧ Hid (RE s1 s2 acc)) (fun wr => match wr.cell? ⟨b, 1, none⟩ with | some (.bool true) => (match wr.cell? ⟨b, 0, none⟩ with | some (.string x) => x.size + 1 | _ => 0) | _ => 0)
        case atStart => exact ⟨s1, _, [], hl1, hbd, HRM, HRE⟩
        case round =>
          obtain ⟨⟨l, m⟩, cv, acc, hl2, hac, H, HE⟩ := hrel
          obtain ⟨va, vc, he, -, -, -⟩ := own_form H.out.own
          subst he
          obtain ⟨q0, q1, -, -⟩ := H.out.rd
          obtain ⟨d0, d1, d2, d3, d4, d5, d6, d7, d8⟩ := ABox.cells H.out.ab
          simp only at hl2 hac q0 q1
          cases m with
          | true =>
            simp only [if_true] at hac
            have HNn := number_any b (l, true) hl2 wr.drew H.out.drew.rd (HE0.out.moved H.out.drew.mv)
            cases hn : numS (l, true) with
            | none =>
              have HX : Hid (words (restartR s) = .error 421) := Lib.hid (by rw [hR, HE.out.none rfl hn]; rfl)
              rw [hn] at HNn
              have HNn := Lib.hid HNn
              clear hn hR
              go_wp2_with fail
              refine wp_region_held_drew (S := fun w' => w'.cell? ⟨W0.heap.size, 8, none⟩ = some (.slice va acc.length vc)) (by kernel_rfl) d8 (fun hHeld => ?_)
              (refine wpAnyH_take (i := 0) (v := (.pointer (some ⟨W0.heap.size, 8, none⟩))) rfl (by kernel_rfl) (by kernel_rfl) (by kernel_rfl) (fun _ _ _ h => h) (Or.inl ⟨by rfl, by intro w hSw; go_simp; try with_reducible rfl⟩) (by assumption) ?_; simp only [List.getElem_toArray, List.getElem_cons_zero, Act.put, List.setIfInBounds_toArray, List.set_cons_succ, List.set_cons_zero])
              (refine wpAnyH_take (i := 1) (v := (.slice va acc.length vc)) rfl (by kernel_rfl) (by kernel_rfl) (by kernel_rfl) (fun _ _ _ h => h) (Or.inl ⟨by rfl, by intro w hSw; go_simp; try with_reducible rfl⟩) (by assumption) ?_; simp only [List.getElem_toArray, List.getElem_cons_succ, List.getElem_cons_zero, Act.put, List.setIfInBounds_toArray, List.set_cons_succ, List.set_cons_zero])
              (refine wpAnyH_take (i := 2) (v := (.pointer (some ⟨b, 0, none⟩))) rfl (by kernel_rfl) (by kernel_rfl) (by kernel_rfl) (fun _ _ _ h => h) (Or.inl ⟨by rfl, by intro w hSw; go_simp; try with_reducible rfl⟩) (by assumption) ?_; simp only [List.getElem_toArray, List.getElem_cons_succ, List.getElem_cons_zero, Act.put, List.setIfInBounds_toArray, List.set_cons_succ, List.set_cons_zero])
              refine wpAnyH_ready (rs := [3]) (by kernel_rfl) (by simp) (AllReadyH.cons rfl (fun K' hK => ?_) AllReadyH.nil)
              go_simp
              exact HNn.out.mono (fun e w5 hh => by obtain ⟨rfl, hm5⟩ := hh; exact ⟨rfl, VerbE.no HX.out (HM0.out.trans (H.out.drew.mv.trans hm5))⟩)
            | some y =>
              obtain ⟨n, s3⟩ := y
              have HE1 := Lib.hid (HE.out.step rfl hn)
              have hl3 : s3.1.length ≤ 100000000 := Nat.le_trans (num_len hn) hl2
              have hls := num_less hn
              simp only at hls
              have hac3 : (acc ++ [n]).length + (if s3.2 = true then s3.1.length + 1 else 0) ≤ s1.1.length + 1 := by
                simp only [List.length_append, List.length_cons, List.length_nil]
                split
                · have := hls (by assumption); omega
                · omega
              have hms : (if s3.2 = true then s3.1.length + 1 else 0) < l.length + 1 := by
                split
                · have := hls (by assumption); omega
                · omega
              have HMS := Lib.hid hms
              have HA3 := Lib.hid hac3
              rw [hn] at HNn
              have HNn := Lib.hid HNn
              have hacb : acc.length ≤ 100000000 := by omega
              clear hn hls hms hac3
              go_wp2_with fail
              go_region_law
                (first
                  | (go_simp; go_at_call 127; refine HNn.out.mono ?_; rintro e w5 ⟨rfl, hq5, hm5⟩; have H5 := Lib.hid (H.out.drew.moved hq5 hm5); obtain ⟨e0, e1, e2, e3, e4, e5, e6, e7, e8⟩ := ABox.cells H5.out.ab; have t8 := fun o => (ABox.cells (H5.out.alloc o).ab).2.2.2.2.2.2.2.2)
                  | (refine step_append_any (w5.alloc (.cells #[.int .i64 n] 3)) rfl (.tmp 18) (.tmp 21) _ (by rfl) W0.heap.size _ _ 1 8 Tryz.underlying43 infoJ rfl (by decide) (by decide) _ acc.length (jcells acc) (by rfl) (H5.out.alloc _).own _ 1 1 [.int .i64 n] (by rfl) ⟨rfl, fun _ => ⟨_, rfl, cells_new w5 _ _ _ rfl⟩⟩ (by intro u hu; simp only [List.mem_cons, List.not_mem_nil, or_false] at hu; rcases hu with rfl; rfl) (by omega) (by have := H5.out.mv.size; simp; omega) ?_; intro v6 w6 hown6 hg6; obtain ⟨pa6, pc6, he6, -, -, -⟩ := own_form hown6; subst he6; have H6 := Lib.hid ((H5.out.alloc (.cells #[.int .i64 n] 3)).push hown6 hg6); have B6 := Lib.hid (Blk.grown (H5.out.alloc (.cells #[.int .i64 n] 3)).ab (H5.out.alloc (.cells #[.int .i64 n] 3)).own hg6 (by decide)); have s8 := Blk.cell B6.out 8; have y8 := Blk.free B6.out 8))
              all_goals
                go_roundw
                case rel => first | exact ⟨s3, _, acc ++ [n], hl3, HA3.out, H6, HE1⟩ | ((repeat apply Exists.intro); exact ⟨⟨s3, _, acc ++ [n], hl3, HA3.out, H6, HE1⟩, rfl⟩)
                case measure =>
                  obtain ⟨p0, p1, -, -⟩ := H6.out.rd
                  rw [p0, p1, q0, q1]
                  have := HMS.out
                  cases hs3 : s3.2 <;> simp [hs3, ByteArray.size] at this ⊢ <;> omega
          | false =>
            have HX : Hid (words (restartR s) = .ok (C.act 5 0 false acc, false)) := Lib.hid (by rw [hR, HE.out.done rfl]; rfl)
            have HAc := Lib.hid (fun w' => act_any 5 0 0 0 0 ByteArray.empty none va 0 0 acc.length vc false w')
            clear hR
            go_wp2_with (go_at_call 96; refine (HAc.out _).mono ?_; rintro e w6 ⟨rfl, hb6⟩; have H6 := Lib.hid (H.out.below hb6); obtain ⟨r0, r1, r2, r3, r4, r5, r6, r7, r8, r9, r10, r11⟩ := CBox.cells H6.out.rb; obtain ⟨g0, g1, g2, g3, g4, g5, g6, g7, g8, g9, g10, g11⟩ := CBox.free H6.out.rb)
            refine bodyPost_ret (by simp [results, Tryz.results98, go_sem, r0, r1, r2, r3, r4, r5, r6, r7, r8, r9, r10, r11]; try rfl) rfl ?_
            refine VerbE.fin (W0 := W0) (w4 := w6) (l := l) HX.out ⟨_, _, _, [], rfl, World.ownsRow_nil _ _ _ _, H6.out.own, World.ownsRow_nil _ _ _ _, TRow.nil_ _ _ _⟩ H6.out.rb H6.out.rd hl2 (HM0.out.trans H6.out.mv) hbl (by have := HD.out.size; omega) ?_
            exact ((((((((((((Moved.set w.heap.size 0 _ _).trans (Moved.set w.heap.size 1 _ _)).trans (Moved.set w.heap.size 2 _ _)).trans (Moved.set w.heap.size 3 _ _)).trans (Moved.set w.heap.size 4 _ _)).trans (Moved.set w.heap.size 5 _ _)).trans (Moved.set w.heap.size 6 _ _)).trans (Moved.set w.heap.size 7 _ _)).trans (Moved.set w.heap.size 8 _ _)).trans (Moved.set w.heap.size 9 _ _)).trans (Moved.set w.heap.size 10 _ _)).trans (Moved.set w.heap.size 11 _ _))
    · have HX : Hid (words (restartR s) = .error 421) := Lib.hid (by simp [restartR, hw, hx, words])
      have x1 : (x == [108, 111, 103]) = false := by rw [beq_eq_false_iff_ne]; exact fun e => hx (.inl e)
      have x2 : (x == [106, 111, 117, 114, 110, 97, 108]) = false := by rw [beq_eq_false_iff_ne]; exact fun e => hx (.inr e)
      clear hx hw
      go_enter Tryz.func98, Tryz.ntmps98
      go_wp2_with (first
        | (go_at_call 134; refine (HW.out _ (HQ0.out.alloc _) (HE0.out.moved ((Moved.refl _ _).alloc _))).mono ?_; rintro e w1 ⟨rfl, hq1, hm1⟩)
        | (go_at_call 44; refine (sneed_no _).mono ?_; rintro e w2 ⟨rfl, rfl⟩))
      refine ⟨rfl, ?_⟩
      exact VerbE.no HX.out ((HM0.out.alloc _).trans hm1)
end Go.Proofs.YtkkildkleleppaaGreatDoor
