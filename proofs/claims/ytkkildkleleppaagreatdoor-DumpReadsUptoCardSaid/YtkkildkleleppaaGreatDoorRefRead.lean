/- The document's reader, walked: bureauref31.Read. -/
import Derived.Test.YtkkildkleleppaaGreatDoorOne
import Derived.Test.YtkkildkleleppaaGreatDoorDr
namespace Go.Proofs.YtkkildkleleppaaGreatDoor
open Go.RowKit

theorem endsL_chain : ∀ (r : List UInt8) (q : Bool) (i : Nat), List.Pairwise (· < ·) (i :: endsL q i r)
  | [], q, i => by simp [endsL]
  | c :: r, q, i => by
    have ih := endsL_chain r (tog q c) (i + 1)
    rw [List.pairwise_cons] at ih ⊢
    rw [endsL]
    split
    · refine ⟨fun e he => ?_, by rw [List.pairwise_cons]; exact ih⟩
      rcases List.mem_cons.1 he with rfl | he
      · omega
      · have := ih.1 e he; omega
    · exact ⟨fun e he => by have := ih.1 e he; omega, ih.2⟩

theorem endsL_num : ∀ (r : List UInt8) (q : Bool) (i : Nat), (endsL q i r).length ≤ r.length
  | [], q, i => by simp [endsL]
  | c :: r, q, i => by
    have ih := endsL_num r (tog q c) (i + 1)
    rw [endsL]
    split <;> simp only [List.length_cons] <;> omega

/-- The loop over the ends: what has been read. -/
structure FE (l : List UInt8) (es : List Nat) (k f : Nat) (ts : List T) : Prop where
  ch : List.Pairwise (· < ·) (f :: es.drop k)
  le : f ≤ l.length
  bd : ∀ e ∈ es, e ≤ l.length
  ln : ts.length ≤ k
  run : refRun l es 0 = match refRun l (es.drop k) f with | .error e => .error e | .ok us => .ok (ts ++ us)
section
variable {l : List UInt8} {es : List Nat} {k f : Nat} {ts : List T}
theorem FE.lt (h : FE l es k f ts) (hk : k < es.length) : f < es[k] ∧ es[k] ≤ l.length := by
  have h1 := h.ch
  rw [List.drop_eq_getElem_cons hk, List.pairwise_cons] at h1
  exact ⟨h1.1 _ (List.mem_cons_self ..), h.bd _ (List.getElem_mem hk)⟩
theorem FE.miss (h : FE l es k f ts) (hk : k < es.length) (ho : oneS (pieceL l f es[k]) = none) : refRun l es 0 = .error f := by
  rw [h.run, List.drop_eq_getElem_cons hk, refRun, ho]
theorem FE.step {t : T} (h : FE l es k f ts) (hk : k < es.length) (ho : oneS (pieceL l f es[k]) = some t) : FE l es (k + 1) es[k] (ts ++ [t]) := by
  have h1 := h.ch
  rw [List.drop_eq_getElem_cons hk, List.pairwise_cons] at h1
  refine ⟨h1.2, (h.lt hk).2, h.bd, by have := h.ln; simp; omega, ?_⟩
  rw [h.run, List.drop_eq_getElem_cons hk, refRun, ho]
  dsimp only
  cases refRun l (es.drop (k + 1)) es[k] <;> simp
theorem FE.end_ (h : FE l es k f ts) (hk : es.length ≤ k) (hf : f < l.length) : refRun l es 0 = .error f := by
  rw [h.run, List.drop_of_length_le hk, refRun, if_pos hf]
theorem FE.done (h : FE l es k f ts) (hk : es.length ≤ k) (hf : ¬ f < l.length) : refRun l es 0 = .ok ts := by
  rw [h.run, List.drop_of_length_le hk, refRun, if_neg hf]; simp
end

/-- The loop over the ends: memory. -/
structure FM (w wr : World) (ts : List T) (v : Value) (xs : List Value) (ev : Value) (es : List Nat) : Prop where
  bl : Below w.heap.size w wr
  own : wr.ownsRow w.heap.size 71 2 v ts.length xs
  tr : TRow wr w.heap.size 80 xs ts
  en : wr.ownsRow w.heap.size 3 1 ev es.length (icells es)
section
variable {w wr wr' : World} {ts : List T} {v v' : Value} {xs : List Value} {ev : Value} {es : List Nat}
theorem FM.below (h : FM w wr ts v xs ev es) (hb : Below wr.heap.size wr wr') : FM w wr' ts v xs ev es :=
  ⟨h.bl.trans (hb.mono h.bl.size), own_kept h.own hb, h.tr.below hb, own_kept h.en hb⟩
theorem FM.alloc (h : FM w wr ts v xs ev es) (o : Obj) : FM w (wr.alloc o) ts v xs ev es := h.below (below_alloc _ _)
theorem FM.push (h : FM w wr ts v xs ev es) (t : T) (pv : Value) (ht : wr.ownsRow w.heap.size 80 3 pv t.ps.length (vcells t.ps))
    (ho : wr'.ownsRow w.heap.size 71 2 v' (ts.length + 1) (xs ++ [.string t.sql, pv])) (hg : wr.grownBy wr' v.ownBlock) : FM w wr' (ts ++ [t]) v' (xs ++ [.string t.sql, pv]) ev es := by
  refine ⟨own_next h.own h.bl hg h.bl.size, ?_, ?_, World.ownsRow.kept h.en hg (own_ne h.en h.own (by decide))⟩
  · have e : (ts ++ [t]).length = ts.length + 1 := by simp
    rw [e]; exact ho
  · exact (h.tr.push t pv (own_slice ht) ht).kept h.own (by decide) hg
theorem FM.at_ {b n c : Nat} (h : FM w wr ts v xs (.slice (some ⟨b, 0, none⟩) n c) es) {k : Nat} (hk : k < es.length) : wr.cell? ⟨b, k, none⟩ = some (.int .i64 (es[k] : Int)) := by
  have := World.ownsRow.cells h.en (g := b) rfl k _ (icells_at es k hk)
  rwa [add_lit, Nat.zero_add] at this
end

set_option maxRecDepth 100000 in
set_option maxHeartbeats 2000000 in
theorem refread_any (s : ByteArray) (hs : s.size ≤ 16777216) (w : World) (hE : Env w) : Calls Tryz.prog 14 #[.string s] w (DRead s.data.toList w) := by
  have HE := Lib.hid hE
  have HC := Lib.hid (Ends_any s (by omega) w)
  unfold DRead
  rw [ref_eq _ _ 0 (by omega) (by omega), List.drop_zero]
  have HF0 : Hid (FE s.data.toList (endsL false 0 s.data.toList) 0 0 []) := Lib.hid
    ⟨endsL_chain _ _ _, by omega, fun e he => by have := endsL_bound _ _ _ e he; omega, by simp, by rw [List.drop_zero]; cases refRun s.data.toList (endsL false 0 s.data.toList) 0 <;> simp⟩
  unfold EndsEnd at HC
  have hel : (endsL false 0 s.data.toList).length ≤ s.size := by have := endsL_num s.data.toList false 0; simpa using this
  generalize endsL false 0 s.data.toList = es at HC HF0 hel ⊢
  generalize ho : refRun s.data.toList es 0 = o
  have HO := Lib.hid ho
  clear ho hE
  go_enter Tryz.func14, Tryz.ntmps14
  go_wp2_with (go_at_call 36; refine HC.out.mono ?_; rintro e w1 ⟨ev, rfl, hown, hb1⟩; obtain ⟨la, lc, hv, hlc, -, hx⟩ := own_form hown; subst hv)
  have HM0 : Hid (FM w w1 [] (.slice none 0 0) [] (.slice la es.length lc) es) := Lib.hid ⟨hb1, World.ownsRow_nil _ _ _ _, TRow.nil_ _ _ _, hown⟩
  go_loopw [5, 6, 8] (fun out fr i wr => ∃ (k f : Nat) (ts : List T) (v : Value) (xs : List Value), k ≤ es.length ∧ i = .int .i64 k ∧ fr = .int .i64 f ∧ out = v ∧ Hid (FM w wr ts v xs (.slice la es.length lc) es) ∧ Hid (FE s.data.toList es k f ts)) (fun _ _ i _ => es.length - (intOf i).toNat)
  case atStart => exact ⟨0, 0, [], _, [], by omega, rfl, rfl, rfl, HM0, HF0⟩
  case round =>
    obtain ⟨k, f, ts, v, xs, hk, rfl, rfl, rfl, HM, HF⟩ := hrel
    have hfl : f ≤ s.size := by have := HF.out.le; simpa using this
    by_cases hlt : k < es.length
    · obtain ⟨lb, hla⟩ : ∃ lb, la = some ⟨lb, 0, none⟩ := (row_at hx (by omega))
      subst hla
      clear hx
      obtain ⟨g1, g2⟩ := HF.out.lt hlt
      have g2' : es[k] ≤ s.size := by simpa using g2
      have hc := HM.out.at_ hlt
      have hEx : (s.extract f es[k]).data.toList = pieceL s.data.toList f es[k] := extract_list _ _ _
      have hz : (s.extract f es[k]).size ≤ 16777216 := by rw [ByteArray.size_extract]; omega
      have z0 : (0 : Int) ≤ (f : Int) := by omega
      have z1 : (f : Int) ≤ (es[k] : Int) := by omega
      have z2 : (es[k] : Int) ≤ (s.size : Int) := by omega
      have hON := fun w' (hb : Below w.heap.size w w') => One_any (s.extract f es[k]) hz w' (HE.out.below hb)
      rw [hEx] at hON
      have hts : ts.length ≤ 16777216 := by have := HF.out.ln; omega
      cases hr : oneS (pieceL s.data.toList f es[k]) with
      | none =>
        have HN := Lib.hid (HO.out.symm.trans (HF.out.miss hlt hr))
        unfold OneO at hON
        simp only [hr] at hON
        have HON := Lib.hid hON
        clear hr hEx hz hON
        generalize es[k] = e1 at *
        go_wp2_with (go_at_call 37; refine (HON.out _ HM.out.bl).mono ?_; rintro e w5 ⟨sql, pa, n5, c5, rfl, hb5⟩)
        refine bodyPost_ret (by simp [results, Tryz.results14, go_sem]; try rfl) rfl ?_
        exact DReadO.no HN.out ((HM.out.below hb5).alloc _).bl
      | some t =>
        obtain ⟨sql, ps⟩ := t
        have HF1 := Lib.hid (HF.out.step hlt hr)
        unfold OneO at hON
        simp only [hr] at hON
        have HON := Lib.hid hON
        clear hr hEx hz hON
        go_wp2_with (first
          | (go_at_call 37; refine (HON.out _ HM.out.bl).mono ?_; rintro e w5 ⟨pv, rfl, hown5, hb5⟩; have HM5 := Lib.hid (HM.out.below hb5); have hown5 := own_mono (B' := w.heap.size) HM.out.bl.size hown5; obtain ⟨pa, pc, hpv, -, -, hx5⟩ := own_form hown5; clear hx5; subst hpv; have HM6 := Lib.hid (HM5.out.alloc (.cells #[.string sql, .slice pa ps.length pc] 71)))
          | (at_builtin; refine wpList_pushR2 (w5.alloc (.cells #[.string sql, .slice pa ps.length pc] 71)) 71 _ rfl (.tmp 33) (.tmp 35) _ rfl w.heap.size _ 2 40 Tryz.underlying22 infoT rfl (by decide) (by decide) _ ts.length xs rfl HM6.out.own [.string sql, .slice pa ps.length pc] rfl (by intro u hu; simp only [List.mem_cons, List.not_mem_nil, or_false] at hu; rcases hu with rfl | rfl <;> rfl) 1 1 _ (by simp) rfl rfl (by omega) HM6.out.bl.size ?_; intro v7 w7 hown7 hg7; have HM7 := Lib.hid (HM6.out.push ⟨sql, ps⟩ (.slice pa ps.length pc) (own_kept hown5 (below_alloc _ _)) hown7 hg7); have hc7 := HM7.out.at_ hlt))
        go_roundw
        case rel => first | exact ⟨k + 1, es[k], ts ++ [T.mk sql ps], _, _, by omega, by go_num, rfl, rfl, HM7, HF1⟩ | ((repeat apply Exists.intro); exact ⟨⟨k + 1, es[k], ts ++ [T.mk sql ps], _, _, by omega, by go_num, rfl, rfl, HM7, HF1⟩, rfl⟩)
        case measure => simp [intOf]; omega
    · have hi : ¬ (k : Int) < (es.length : Int) := by omega
      clear hx
      by_cases hf : f < s.size
      · have HN := Lib.hid (HO.out.symm.trans (HF.out.end_ (by omega) (by simpa using hf)))
        have hi2 : (f : Int) < (s.size : Int) := by omega
        go_wp2
        refine bodyPost_ret (by simp [results, Tryz.results14, go_sem]; try rfl) rfl ?_
        exact DReadO.no HN.out HM.out.bl
      · have HN := Lib.hid (HO.out.symm.trans (HF.out.done (by omega) (by simpa using hf)))
        have hi2 : ¬ (f : Int) < (s.size : Int) := by omega
        go_wp2
        refine bodyPost_ret (by simp [results, Tryz.results14, go_sem]; try rfl) rfl ?_
        exact DReadO.yes HN.out HM.out.own HM.out.tr HM.out.bl
end Go.Proofs.YtkkildkleleppaaGreatDoor
