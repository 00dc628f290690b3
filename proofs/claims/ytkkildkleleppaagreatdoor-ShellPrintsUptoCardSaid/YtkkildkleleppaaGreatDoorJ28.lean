/- The document's reader, walked: bureauref31.Read. The calls whose answers the document fixes (bureaulaw31.head). -/
import Derived.Test.YtkkildkleleppaaGreatDoorJ21
import Derived.Test.YtkkildkleleppaaGreatDoorJ22
import Derived.Test.YtkkildkleleppaaGreatDoorJ27
namespace Go.Proofs.YtkkildkleleppaaGreatDoor
open Go.RowKit

theorem endsL_chain : ∀ (r : List UInt8) (q : Bool) (i : Nat), List.Pairwise (· < ·) (i :: endsL q i r)
  | [], q, i => by simp [endsL]
  | c :: r, q, i => by
    have ih := endsL_chain r (tog q c) (i + 1)
    rw [List.pairwise_cons] at ih ⊢
    rw [endsL]
    split
    · refine ⟨fun e he => ?_, by rw [List.pairwise_cons]; exact ih⟩
      rcases List.mem_cons.1 he with rfl | he
      · omega
      · have := ih.1 e he; omega
    · exact ⟨fun e he => by have := ih.1 e he; omega, ih.2⟩

theorem endsL_num : ∀ (r : List UInt8) (q : Bool) (i : Nat), (endsL q i r).length ≤ r.length
  | [], q, i => by simp [endsL]
  | c :: r, q, i => by
    have ih := endsL_num r (tog q c) (i + 1)
    rw [endsL]
    split <;> simp only [List.length_cons] <;> omega

/-- The loop over the ends: what has been read. -/
structure FE (l : List UInt8) (es : List Nat) (k f : Nat) (ts : List T) : Prop where
  ch : List.Pairwise (· < ·) (f :: es.drop k)
  le : f ≤ l.length
  bd : ∀ e ∈ es, e ≤ l.length
  ln : ts.length ≤ k
  run : refRun l es 0 = match refRun l (es.drop k) f with | .error e => .error e | .ok us => .ok (ts ++ us)
section
variable {l : List UInt8} {es : List Nat} {k f : Nat} {ts : List T}
theorem FE.lt (h : FE l es k f ts) (hk : k < es.length) : f < es[k] ∧ es[k] ≤ l.length := by
  have h1 := h.ch
  rw [List.drop_eq_getElem_cons hk, List.pairwise_cons] at h1
  exact ⟨h1.1 _ (List.mem_cons_self ..), h.bd _ (List.getElem_mem hk)⟩
theorem FE.miss (h : FE l es k f ts) (hk : k < es.length) (ho : oneS (pieceL l f es[k]) = none) : refRun l es 0 = .error f := by
  rw [h.run, List.drop_eq_getElem_cons hk, refRun, ho]
theorem FE.step {t : T} (h : FE l es k f ts) (hk : k < es.length) (ho : oneS (pieceL l f es[k]) = some t) : FE l es (k + 1) es[k] (ts ++ [t]) := by
  have h1 := h.ch
  rw [List.drop_eq_getElem_cons hk, List.pairwise_cons] at h1
  refine ⟨h1.2, (h.lt hk).2, h.bd, by have := h.ln; simp; omega, ?_⟩
  rw [h.run, List.drop_eq_getElem_cons hk, refRun, ho]
  dsimp only
  cases refRun l (es.drop (k + 1)) es[k] <;> simp
theorem FE.end_ (h : FE l es k f ts) (hk : es.length ≤ k) (hf : f < l.length) : refRun l es 0 = .error f := by
  rw [h.run, List.drop_of_length_le hk, refRun, if_pos hf]
theorem FE.done (h : FE l es k f ts) (hk : es.length ≤ k) (hf : ¬ f < l.length) : refRun l es 0 = .ok ts := by
  rw [h.run, List.drop_of_length_le hk, refRun, if_neg hf]; simp
end

/-- The loop over the ends: memory. -/
structure FM (w wr : World) (ts : List T) (v : Value) (xs : List Value) (ev : Value) (es : List Nat) : Prop where
  bl : Below w.heap.size w wr
  own : wr.ownsRow w.heap.size 71 2 v ts.length xs
  tr : TRow wr w.heap.size 80 xs ts
  en : wr.ownsRow w.heap.size 3 1 ev es.length (icells es)
section
variable {w wr wr' : World} {ts : List T} {v v' : Value} {xs : List Value} {ev : Value} {es : List Nat}
theorem FM.below (h : FM w wr ts v xs ev es) (hb : Below wr.heap.size wr wr') : FM w wr' ts v xs ev es :=
  ⟨h.bl.trans (hb.mono h.bl.size), own_kept h.own hb, h.tr.below hb, own_kept h.en hb⟩
theorem FM.alloc (h : FM w wr ts v xs ev es) (o : Obj) : FM w (wr.alloc o) ts v xs ev es := h.below (below_alloc _ _)
theorem FM.push (h : FM w wr ts v xs ev es) (t : T) (pv : Value) (ht : wr.ownsRow w.heap.size 80 3 pv t.ps.length (vcells t.ps))
    (ho : wr'.ownsRow w.heap.size 71 2 v' (ts.length + 1) (xs ++ [.string t.sql, pv])) (hg : wr.grownBy wr' v.ownBlock) : FM w wr' (ts ++ [t]) v' (xs ++ [.string t.sql, pv]) ev es := by
  refine ⟨own_next h.own h.bl hg h.bl.size, ?_, ?_, World.ownsRow.kept h.en hg (own_ne h.en h.own (by decide))⟩
  · have e : (ts ++ [t]).length = ts.length + 1 := by simp
    rw [e]; exact ho
  · exact (h.tr.push t pv (own_slice ht) ht).kept h.own (by decide) hg
theorem FM.at_ {b n c : Nat} (h : FM w wr ts v xs (.slice (some ⟨b, 0, none⟩) n c) es) {k : Nat} (hk : k < es.length) : wr.cell? ⟨b, k, none⟩ = some (.int .i64 (es[k] : Int)) := by
  have := World.ownsRow.cells h.en (g := b) rfl k _ (icells_at es k hk)
  rwa [add_lit, Nat.zero_add] at this
end

set_option maxRecDepth 100000 in
set_option maxHeartbeats 2000000 in
theorem refread_any (s : ByteArray) (hs : s.size ≤ 16777216) (w : World) (hE : Env w) : Calls Tryz.prog 14 #[.string s] w (DRead s.data.toList w) := by
  have HE := Lib.hid hE
  have HC := Lib.hid (Ends_any s (by omega) w)
  unfold DRead
  rw [ref_eq _ _ 0 (by omega) (by omega), List.drop_zero]
  have HF0 : Hid (FE s.data.toList (endsL false 0 s.data.toList) 0 0 []) := Lib.hid
    ⟨endsL_chain _ _ _, by omega, fun e he => by have := endsL_bound _ _ _ e he; omega, by simp, by rw [List.drop_zero]; cases refRun s.data.toList (endsL false 0 s.data.toList) 0 <;> simp⟩
  unfold EndsEnd at HC
  have hel : (endsL false 0 s.data.toList).length ≤ s.size := by have := endsL_num s.data.toList false 0; simpa using this
  generalize endsL false 0 s.data.toList = es at HC HF0 hel ⊢
  generalize ho : refRun s.data.toList es 0 = o
  have HO := Lib.hid ho
  clear ho hE
  go_enter Tryz.func14, Tryz.ntmps14
  go_wp2_with (go_at_call 36; refine HC.out.mono ?_; rintro e w1 ⟨ev, rfl, hown, hb1⟩; obtain ⟨la, lc, hv, hlc, -, hx⟩ := own_form hown; subst hv)
  have HM0 : Hid (FM w w1 [] (.slice none 0 0) [] (.slice la es.length lc) es) := Lib.hid ⟨hb1, World.ownsRow_nil _ _ _ _, TRow.nil_ _ _ _, hown⟩
  go_loopw [5, 6, 8] (fun out fr i wr => ∃ (k f : Nat) (ts : List T) (v : Value) (xs : List Value), k ≤ es.length ∧ i = .int .i64 k ∧ fr = .int .i64 f ∧ out = v ∧ Hid (FM w wr ts v xs (.slice la es.length lc) es) ∧ Hid (FE s.data.toList es k f ts)) (fun _ _ i _ => es.length - (intOf i).toNat)
  case atStart => exact ⟨0, 0, [], _, [], by omega, rfl, rfl, rfl, HM0, HF0⟩
  case round =>
    obtain ⟨k, f, ts, v, xs, hk, rfl, rfl, rfl, HM, HF⟩ := hrel
    have hfl : f ≤ s.size := by have := HF.out.le; simpa using this
    by_cases hlt : k < es.length
    · obtain ⟨lb, hla⟩ : ∃ lb, la = some ⟨lb, 0, none⟩ := (row_at hx (by omega))
      subst hla
      clear hx
      obtain ⟨g1, g2⟩ := HF.out.lt hlt
      have g2' : es[k] ≤ s.size := by simpa using g2
      have hc := HM.out.at_ hlt
      have hEx : (s.extract f es[k]).data.toList = pieceL s.data.toList f es[k] := extract_list _ _ _
      have hz : (s.extract f es[k]).size ≤ 16777216 := by rw [ByteArray.size_extract]; omega
      have z0 : (0 : Int) ≤ (f : Int) := by omega
      have z1 : (f : Int) ≤ (es[k] : Int) := by omega
      have z2 : (es[k] : Int) ≤ (s.size : Int) := by omega
      have hON := fun w' (hb : Below w.heap.size w w') => One_any (s.extract f es[k]) hz w' (HE.out.below hb)
      rw [hEx] at hON
      have hts : ts.length ≤ 16777216 := by have := HF.out.ln; omega
      cases hr : oneS (pieceL s.data.toList f es[k]) with
      | none =>
        have HN := Lib.hid (HO.out.symm.trans (HF.out.miss hlt hr))
        unfold OneO at hON
        simp only [hr] at hON
        have HON := Lib.hid hON
        clear hr hEx hz hON
        generalize es[k] = e1 at *
        go_wp2_with (go_at_call 37; refine (HON.out _ HM.out.bl).mono ?_; rintro e w5 ⟨sql, pa, n5, c5, rfl, hb5⟩)
        refine bodyPost_ret (by simp [results, Tryz.results14, go_sem]; try rfl) rfl ?_
        exact DReadO.no HN.out ((HM.out.below hb5).alloc _).bl
      | some t =>
        obtain ⟨sql, ps⟩ := t
        have HF1 := Lib.hid (HF.out.step hlt hr)
        unfold OneO at hON
        simp only [hr] at hON
        have HON := Lib.hid hON
        clear hr hEx hz hON
        go_wp2_with (first
          | (go_at_call 37; refine (HON.out _ HM.out.bl).mono ?_; rintro e w5 ⟨pv, rfl, hown5, hb5⟩; have HM5 := Lib.hid (HM.out.below hb5); have hown5 := own_mono (B' := w.heap.size) HM.out.bl.size hown5; obtain ⟨pa, pc, hpv, -, -, hx5⟩ := own_form hown5; clear hx5; subst hpv; have HM6 := Lib.hid (HM5.out.alloc (.cells #[.string sql, .slice pa ps.length pc] 71)))
          | (at_builtin; refine wpList_pushR2 (w5.alloc (.cells #[.string sql, .slice pa ps.length pc] 71)) 71 _ rfl (.tmp 33) (.tmp 35) _ rfl w.heap.size _ 2 40 Tryz.underlying22 infoT rfl (by decide) (by decide) _ ts.length xs rfl HM6.out.own [.string sql, .slice pa ps.length pc] rfl (by intro u hu; simp only [List.mem_cons, List.not_mem_nil, or_false] at hu; rcases hu with rfl | rfl <;> rfl) 1 1 _ (by simp) rfl rfl (by omega) HM6.out.bl.size ?_; intro v7 w7 hown7 hg7; have HM7 := Lib.hid (HM6.out.push ⟨sql, ps⟩ (.slice pa ps.length pc) (own_kept hown5 (below_alloc _ _)) hown7 hg7); have hc7 := HM7.out.at_ hlt))
        go_roundw
        case rel => first | exact ⟨k + 1, es[k], ts ++ [T.mk sql ps], _, _, by omega, by go_num, rfl, rfl, HM7, HF1⟩ | ((repeat apply Exists.intro); exact ⟨⟨k + 1, es[k], ts ++ [T.mk sql ps], _, _, by omega, by go_num, rfl, rfl, HM7, HF1⟩, rfl⟩)
        case measure => simp [intOf]; omega
    · have hi : ¬ (k : Int) < (es.length : Int) := by omega
      clear hx
      by_cases hf : f < s.size
      · have HN := Lib.hid (HO.out.symm.trans (HF.out.end_ (by omega) (by simpa using hf)))
        have hi2 : (f : Int) < (s.size : Int) := by omega
        go_wp2
        refine bodyPost_ret (by simp [results, Tryz.results14, go_sem]; try rfl) rfl ?_
        exact DReadO.no HN.out HM.out.bl
      · have HN := Lib.hid (HO.out.symm.trans (HF.out.done (by omega) (by simpa using hf)))
        have hi2 : ¬ (f : Int) < (s.size : Int) := by omega
        go_wp2
        refine bodyPost_ret (by simp [results, Tryz.results14, go_sem]; try rfl) rfl ?_
        exact DReadO.yes HN.out HM.out.own HM.out.tr HM.out.bl
end Go.Proofs.YtkkildkleleppaaGreatDoor
namespace Go.Proofs.YtkkildkleleppaaGreatDoor
open Go.RowKit

/-- What 'a',1,NULL tells. -/
def h1T : T := ⟨⟨#[97]⟩, [⟨1, 1, ByteArray.empty⟩, ⟨0, 0, ByteArray.empty⟩]⟩
def h1L : List UInt8 := [39, 97, 39, 44, 49, 44, 78, 85, 76, 76, 10]
theorem h1_may : h1T.may = true := by decide
theorem h1_fit : h1T.fit := by
  intro v hv
  simp only [h1T, List.mem_cons, List.not_mem_nil, or_false] at hv
  rcases hv with rfl | rfl <;> exact ⟨by decide, by decide⟩
theorem h1_part : h1T.part = h1L := by
  have e1 : Lib.itoa 1 = [49] := by
    unfold Lib.itoa
    rw [if_neg (by decide)]
    exact Lib.decDigits_one (i := 1) (by decide)
  have e2 : (V.mk 1 1 ByteArray.empty).lit = [49] := by rw [lit_int, e1]
  have e3 : (V.mk 0 0 ByteArray.empty).lit = [78, 85, 76, 76] := rfl
  simp only [T.part, h1T, paramsT, List.flatMap_cons, List.flatMap_nil, e2, e3]
  rfl
theorem h1_flat : flatT [h1T] = h1L := by rw [flatT_one, h1_part]
theorem h1_text : textS [h1T] = h1L ∧ textE [h1T] = 0 := by
  have h : [h1T].all T.may = true := by simp [h1_may]
  simp only [textS, textE, h, if_true, h1_flat, and_self]
theorem h1_read : readS (h1L.length + 1) h1L 0 = .ok [h1T] :=
  readS_full [h1T] _ h1L 0 (by decide) (by simp [h1_may]) (by intro t ht; simp at ht; subst ht; exact h1_fit) (by rw [h1_flat]; rfl)
def h2L : List UInt8 := [39, 97, 39]
theorem h2_read : readS (h2L.length + 1) h2L 0 = .error 0 := by
  refine readS_none (by decide) ?_
  have hq : qtd h2L 0 = some ([97], 3) := by decide
  rw [partS_tail hq]
  exact (tailS_some (vs := []) (k := 3) (paramsS_end (by decide))).trans (by rw [if_neg]; rintro ⟨h, _⟩; exact absurd h (by decide))

theorem head_read1 (w : World) (hE : Env w) : Calls Tryz.prog 13 #[.string ⟨#[39, 97, 39, 44, 49, 44, 78, 85, 76, 76, 10]⟩] w fun e w' => ∃ b c pa pc, e = .returned (.tuple #[.slice (some ⟨b, 0, none⟩) 1 c, .int .i64 0, .int .i64 0]) ∧
    w'.cell? ⟨b, 0, none⟩ = some (.string ⟨#[97]⟩) ∧ w'.cell? ⟨b, 1, none⟩ = some (.slice pa 2 pc) ∧ IsTs w' (some ⟨b, 0, none⟩) [h1T] ∧ Below w.heap.size w w' := by
  refine (dread_any ⟨#[39, 97, 39, 44, 49, 44, 78, 85, 76, 76, 10]⟩ (by decide) w hE).mono ?_
  intro e w' h
  have hr : readS ((⟨#[39, 97, 39, 44, 49, 44, 78, 85, 76, 76, 10]⟩ : ByteArray).data.toList.length + 1) (⟨#[39, 97, 39, 44, 49, 44, 78, 85, 76, 76, 10]⟩ : ByteArray).data.toList 0 = .ok [h1T] := h1_read
  unfold DRead at h
  rw [hr] at h
  obtain ⟨v, xs, rfl, hown, htr, hb⟩ := h
  obtain ⟨a, c, rfl, -, -, hc⟩ := own_form hown
  have hts := own_ts hown htr
  obtain ⟨x0, u, x1, hu⟩ := htr.2.2 0 h1T rfl
  obtain ⟨pa, pc, rfl, -⟩ := own_form hu
  rcases hc with h0 | ⟨b, rfl, hc⟩
  · simp at h0
  · exact ⟨b, c, pa, pc, rfl, hc _ _ x0, hc _ _ x1, hts, hb⟩
theorem head_read2 (w : World) (hE : Env w) : Calls Tryz.prog 13 #[.string ⟨#[39, 97, 39]⟩] w (Ret w (.tuple #[.slice none 0 0, .int .i64 0, .int .i64 410])) := by
  refine (dread_any ⟨#[39, 97, 39]⟩ (by decide) w hE).mono ?_
  intro e w' h
  have hr : readS ((⟨#[39, 97, 39]⟩ : ByteArray).data.toList.length + 1) (⟨#[39, 97, 39]⟩ : ByteArray).data.toList 0 = .error 0 := h2_read
  unfold DRead at h
  rw [hr] at h
  exact h

set_option maxRecDepth 100000 in
set_option maxHeartbeats 1000000 in
theorem head31_any (w : World) (hE : Env w) : Calls Tryz.prog 12 #[] w (Ret w (.bool true)) := by
  have HE := Lib.hid hE
  clear hE
  have HT := Lib.hid (fun b c w' hE h => Text_any (some ⟨b, 0, none⟩) 1 c [h1T] rfl (by decide) (by intro t ht; simp at ht; subst ht; exact h1_fit) w' hE h)
  rw [h1_text.1, h1_text.2] at HT
  go_enter Tryz.func12, Tryz.ntmps12
  go_wp2_with (first
    | (go_at_call 13; (with_reducible refine (head_read1 _ ?_).mono ?_); exact HE.out; rintro e w1 ⟨b, c, pa, pc, rfl, c0, c1, hts, hb1⟩; have HTs := Lib.hid hts)
    | (go_at_call 13; (with_reducible refine (head_read2 _ ?_).mono ?_); exact HE.out.below hb1; rintro e w2 ⟨rfl, hb2⟩; have d0 := (hb2.cell (lt_of_cell c0)).trans c0; have d1 := (hb2.cell (lt_of_cell c1)).trans c1; have HB2 := Lib.hid (hb1.trans (hb2.mono hb1.size)))
    | (go_at_call 9; refine (HT.out b c _ (HE.out.below HB2.out) (HTs.out.below hb2)).mono ?_; rintro e w3 ⟨rfl, hb3⟩; have e0 := (hb3.cell (lt_of_cell d0)).trans d0; have e1 := (hb3.cell (lt_of_cell d1)).trans d1))
  go_ret
  exact ⟨rfl, HB2.out.trans (hb3.mono HB2.out.size)⟩

set_option maxRecDepth 100000 in
set_option maxHeartbeats 1000000 in
theorem texts_any (a : Option Addr) (n c : Nat) (ts : List T) (hn : n = ts.length) (hl : n ≤ 16777216) (hps : ∀ t ∈ ts, t.ps.length ≤ 16777216) (hf : fitTs ts) (w : World) (hE : Env w) (h : IsTs w a ts) :
    Calls Tryz.prog 3 #[.slice a n c] w (Ret w (.bool true)) := by
  have HE := Lib.hid hE
  have H := Lib.hid h
  have HC := Lib.hid (fun w' h => copied_any a n c ts hn hl hps w' h)
  have HT := Lib.hid (fun a c w' hE h => Text_any a n c ts hn hl hf w' hE h)
  have HR := Lib.hid (fun w' hE h => rText_any a n c ts hn hl hf w' hE h)
  have HN := Lib.hid hn
  clear hE h hn
  go_enter Tryz.func3, Tryz.ntmps3
  go_wp2_with (first
    | (go_at_call 10; refine (HC.out _ H.out).mono ?_; rintro e w1 ⟨v, xs, rfl, hown, htr, hb1⟩; obtain ⟨a1, c1, hv, hx⟩ := own_form hown; clear hx; subst hv; rw [← HN.out]; have hts := Lib.hid (own_ts hown htr); have HB1 := Lib.hid hb1)
    | (go_at_call 9; refine (HT.out a1 c1 _ (HE.out.below HB1.out) hts.out).mono ?_; rintro e w2 ⟨rfl, hb2⟩; have HB2 := Lib.hid (HB1.out.trans (hb2.mono HB1.out.size)))
    | (go_at_call 11; refine (HR.out _ (HE.out.below HB2.out) (H.out.below HB2.out)).mono ?_; rintro e w3 ⟨rfl, hb3⟩; have HB3 := Lib.hid (HB2.out.trans (hb3.mono HB2.out.size)))
    | (go_at_call 12; refine (head31_any _ (HE.out.below HB3.out)).mono ?_; rintro e w4 ⟨rfl, hb4⟩; have HB4 := Lib.hid (HB3.out.trans (hb4.mono HB3.out.size))))
  go_ret
  exact ⟨rfl, HB4.out⟩
end Go.Proofs.YtkkildkleleppaaGreatDoor
