/- The document's reader, walked: bureauref31.One. The shell's literals. -/
import Derived.Test.YtkkildkleleppaaGreatDoorJ20
import Derived.Test.YtkkildkleleppaaGreatDoorJ13
import Derived.Test.YtkkildkleleppaaGreatDoorJ06
import Derived.StillTailTactics
import Derived.Test.YtkkildkleleppaaGreatDoorJ17
namespace Go.Proofs.YtkkildkleleppaaGreatDoor
open Go.RowKit

theorem cutsL_len : ∀ (l : List UInt8) (q : Bool) (acc x : List UInt8), x ∈ cutsL q acc l → x.length ≤ acc.length + l.length
  | [], _, _, _, h => by cases h
  | c :: r, q, acc, x, h => by
    rw [cutsL] at h
    split at h
    · rcases List.mem_cons.1 h with rfl | h
      · simp
      · have := cutsL_len r _ _ _ h
        simp only [List.length_nil, List.length_cons] at *; omega
    · have := cutsL_len r _ _ _ h
      simp only [List.length_append, List.length_cons, List.length_nil] at *; omega
theorem cutsL_num : ∀ (l : List UInt8) (q : Bool) (acc : List UInt8), (cutsL q acc l).length ≤ l.length
  | [], _, _ => by simp [cutsL]
  | c :: r, q, acc => by
    rw [cutsL]
    split
    · have := cutsL_num r (tog q c) []; simp only [List.length_cons]; omega
    · have := cutsL_num r (tog q c) (acc ++ [c]); simp only [List.length_cons]; omega

theorem rtextL_len : ∀ (l x : List UInt8), rtextL l = some x → x.length ≤ l.length
  | [], x, h => by simp [rtextL] at h; subst h; simp
  | [c], x, h => by
    simp only [rtextL] at h
    split at h
    · cases h
    · injection h with h; subst h; simp
  | c :: d :: r, x, h => by
    simp only [rtextL] at h
    split at h
    · split at h
      · obtain ⟨y, hy, rfl⟩ := Option.map_eq_some_iff.1 h
        have := rtextL_len r y hy
        simp only [List.length_cons]; omega
      · cases h
    · obtain ⟨y, hy, rfl⟩ := Option.map_eq_some_iff.1 h
      have := rtextL_len (d :: r) y hy
      simp only [List.length_cons] at *; omega
theorem toldS_len {l : List (List UInt8)} {t : T} (h : toldS l = some t) (n : Nat) (hl : ∀ x ∈ l, x.length ≤ n) : t.sql.size ≤ n := by
  cases l with
  | nil => simp [toldS] at h
  | cons a ls =>
    simp only [toldS] at h
    split at h
    · cases h
    · rename_i x hx
      split at h
      · cases h
      · injection h with h
        subst h
        unfold sqlS at hx
        split at hx
        · cases hx
        · have h1 := rtextL_len _ _ hx
          have h2 := hl a (List.mem_cons_self ..)
          have h3 : (innerL a 1).length ≤ a.length := by simp [innerL]; omega
          have h4 : (⟨x.toArray⟩ : ByteArray).size = x.length := by simp [ByteArray.size]
          simp only; rw [h4]; omega

/-- One part is told, or it is none. -/
def OneO (o : Option T) (w : World) (e : Ending) (w' : World) : Prop :=
  match o with
  | some t => ∃ pv, e = .returned (.tuple #[.agg #[.string t.sql, pv], .bool true]) ∧ w'.ownsRow w.heap.size 80 3 pv t.ps.length (vcells t.ps) ∧ Below w.heap.size w w'
  | none => ∃ sql pa n c, e = .returned (.tuple #[.agg #[.string sql, .slice pa n c], .bool false]) ∧ Below w.heap.size w w'
theorem OneO.no {o : Option T} {w w' : World} {sql : ByteArray} {pa : Option Addr} {n c : Nat} (h : o = none) (hb : Below w.heap.size w w') : OneO o w (.returned (.tuple #[.agg #[.string sql, .slice pa n c], .bool false])) w' := by subst h; exact ⟨sql, pa, n, c, rfl, hb⟩
theorem OneO.yes {o : Option T} {w w' : World} {sql : ByteArray} {ps : List V} {pv : Value} (h : o = some ⟨sql, ps⟩) (ho : w'.ownsRow w.heap.size 80 3 pv ps.length (vcells ps)) (hb : Below w.heap.size w w') : OneO o w (.returned (.tuple #[.agg #[.string sql, pv], .bool true])) w' := by subst h; exact ⟨pv, rfl, ho, hb⟩

theorem oneS_cut {p : List UInt8} {l : List (List UInt8)} (h : cutsL false [] p = l) : oneS p = match toldS l with | none => none | some t => if t.may = true ∧ t.part = p then some t else none := by
  subst h; rfl
theorem oneS_none {p : List UInt8} {l : List (List UInt8)} (h : cutsL false [] p = l) (h2 : toldS l = none) : oneS p = none := by rw [oneS_cut h, h2]
theorem oneS_some {p : List UInt8} {l : List (List UInt8)} {t : T} (h : cutsL false [] p = l) (h2 : toldS l = some t) : oneS p = if t.may = true ∧ t.part = p then some t else none := by rw [oneS_cut h, h2]
theorem toldS_no {h : List UInt8} {ls : List (List UInt8)} (hs : sqlS h = none) : toldS (h :: ls) = none := by simp [toldS, hs]
theorem sqlS_no {h : List UInt8} (hc : h.length < 2 ∨ h[0]? ≠ some 39 ∨ h[h.length - 1]? ≠ some 39) : sqlS h = none := by unfold sqlS; rw [if_pos hc]
theorem sqlS_go {h : List UInt8} (h1 : ¬ h.length < 2) (h2 : h[0]? = some 39) (h3 : h[h.length - 1]? = some 39) : sqlS h = rtextL (innerL h 1) := by
  unfold sqlS
  rw [if_neg]
  rintro (a | a | a)
  · exact h1 a
  · exact a h2
  · exact a h3

/-- The loop over the values of a part: what has been read. -/
def OE (l : List (List UInt8)) (sql : ByteArray) (k : Nat) (vs : List V) (ok : Bool) : Prop := if ok = true then toldS l = (readAll (l.drop k)).map (fun us => T.mk sql (vs ++ us)) else toldS l = none
theorem OE.start {h : List UInt8} {ls : List (List UInt8)} {x : List UInt8} (hs : sqlS h = some x) : OE (h :: ls) ⟨x.toArray⟩ 1 [] true := by
  simp only [OE, if_true, toldS, hs, List.drop_succ_cons, List.drop_zero, List.nil_append]
  cases readAll ls <;> rfl
theorem OE.off {l : List (List UInt8)} {sql : ByteArray} {k : Nat} {vs : List V} (h : toldS l = none) : OE l sql k vs false := by simp only [OE, Bool.false_eq_true, if_false, h]
theorem OE.miss {l : List (List UInt8)} {sql : ByteArray} {k : Nat} {vs us : List V} (h : OE l sql k vs true) (hk : k < l.length) (hr : rread l[k] = none) : OE l sql (k + 1) us false := by
  simp only [OE, if_true] at h
  rw [List.drop_eq_getElem_cons hk, readAll, hr] at h
  exact OE.off h
theorem OE.hit {l : List (List UInt8)} {sql : ByteArray} {k : Nat} {vs : List V} {v : V} (h : OE l sql k vs true) (hk : k < l.length) (hr : rread l[k] = some v) : OE l sql (k + 1) (vs ++ [v]) true := by
  simp only [OE, if_true] at h ⊢
  rw [h, List.drop_eq_getElem_cons hk, readAll, hr]
  cases readAll (l.drop (k + 1)) <;> simp
theorem OE.done {l : List (List UInt8)} {sql : ByteArray} {k : Nat} {vs : List V} (h : OE l sql k vs true) (hk : l.length ≤ k) : toldS l = some ⟨sql, vs⟩ := by
  simp only [OE, if_true] at h
  rw [h, List.drop_of_length_le hk, readAll]; simp
theorem OE.lost {l : List (List UInt8)} {sql : ByteArray} {k : Nat} {vs : List V} (h : OE l sql k vs false) : toldS l = none := by simpa only [OE, Bool.false_eq_true, if_false] using h

/-- The loop over the values of a part: memory. -/
structure OM (w wr : World) (g : Nat) (sql : ByteArray) (vs : List V) (pv lv : Value) (l : List (List UInt8)) : Prop where
  bl : Below w.heap.size w wr
  rb : TBox wr w.heap.size ByteArray.empty (.slice none 0 0)
  bx : TBox wr g sql pv
  own : wr.ownsRow w.heap.size 80 3 pv vs.length (vcells vs)
  ls : wr.ownsRow w.heap.size 9 1 lv l.length (scells l)
  lt : w.heap.size < g
section
variable {w wr wr' : World} {g : Nat} {sql : ByteArray} {vs : List V} {pv pv' lv : Value} {l : List (List UInt8)}
theorem OM.below (h : OM w wr g sql vs pv lv l) (hb : Below wr.heap.size wr wr') : OM w wr' g sql vs pv lv l :=
  ⟨h.bl.trans (hb.mono h.bl.size), h.rb.below hb, h.bx.below hb, own_kept h.own hb, own_kept h.ls hb, h.lt⟩
theorem OM.alloc (h : OM w wr g sql vs pv lv l) (o : Obj) : OM w (wr.alloc o) g sql vs pv lv l := h.below (below_alloc _ _)
theorem OM.drew (h : OM w wr g sql vs pv lv l) : OM w wr.drew g sql vs pv lv l := h.below (below_drew (Below.refl _ _))
theorem OM.push (h : OM w wr g sql vs pv lv l) (v : V) (ho : wr'.ownsRow w.heap.size 80 3 pv' (vs.length + 1) (vcells vs ++ v.cells)) (hg : wr.grownBy wr' pv.ownBlock) : OM w (wr'.setCell ⟨g, 1, none⟩ pv') g sql (vs ++ [v]) pv' lv l := by
  have hlt := h.lt
  have hbx := h.bx.grown h.own hg
  have hrb := h.rb.grown h.own hg
  have hls := World.ownsRow.kept h.ls hg (own_ne h.ls h.own (by decide))
  have hown : wr'.ownsRow w.heap.size 80 3 pv' (vs ++ [v]).length (vcells (vs ++ [v])) := by
    rw [List.length_append, vcells_append]
    simpa [vcells] using ho
  exact ⟨(own_next h.own h.bl hg h.bl.size).setCell (by simp; omega) _, hrb.setO (by simp; omega) _, hbx.set pv', own_moved hown (Moved.set g 1 _ _) (own_other hown hbx (by decide)), own_moved hls (Moved.set g 1 _ _) (own_other hls hbx (by decide)), hlt⟩
end
theorem scell_at {w : World} {B n c : Nat} {b : Nat} {l : List (List UInt8)} (h : w.ownsRow B 9 1 (.slice (some ⟨b, 0, none⟩) n c) l.length (scells l)) (k : Nat) (hk : k < l.length) : w.cell? ⟨b, k, none⟩ = some (.string ⟨l[k].toArray⟩) := by
  have := World.ownsRow.cells h (g := b) rfl k _ (scells_at l k hk)
  rwa [add_lit, Nat.zero_add] at this

theorem fit_push {vs : List V} {v : V} (h : fitVs vs) (hv : v.fit) : fitVs (vs ++ [v]) := by
  intro u hu
  rcases List.mem_append.1 hu with hu | hu
  · exact h u hu
  · simp at hu; subst hu; exact hv
theorem row_at {w : World} {la : Option Addr} {n : Nat} {xs : List Value} (hx : n = 0 ∨ ∃ b, la = some ⟨b, 0, none⟩ ∧ ∀ j u, xs[j]? = some u → w.cell? ⟨b, j, none⟩ = some u) (hn : 0 < n) : ∃ lb, la = some ⟨lb, 0, none⟩ := by
  rcases hx with h0 | ⟨lb, hlb, _⟩
  · omega
  · exact ⟨lb, hlb⟩
section
variable {P : Program} {ops : Array Oper} {rest : List Oper} {o : Oper} {a : Act} {Q : Exit → Act → World → Prop}
theorem wpList_pushR2 (wr : World) (e : TypeId) (cs : Array Value) (hgd : o.guard = none) (s x : Operand) (t : TypeId)
    (ho : o.op = .call { callee := .builtin .append, args := #[s, x], argTypes := #[t, t] })
    (B : Nat) (z : Value) (size bytes : Nat) (ht : P.underlying t = some (.slice e)) (hinfo : (P.info? e).map (fun i => (i.zero, i.size, i.bytes)) = some (some z, size, bytes)) (hzs : z.cells.size = size) (hsz : 0 < size) (hby : bytes ≤ 1024)
    (v : Value) (n : Nat) (xs : List Value) (hs : a.eval s = v) (hown : wr.ownsRow B e size v n xs) (news : List Value) (hcs : cs.toList = news) (h1 : ∀ u ∈ news, u.oneCell' = true)
    (m c k : Nat) (hk : wr.heap.size = k) (hx : a.eval x = .slice (some ⟨k, 0, none⟩) m c) (hm : news.length = m * size) (hn : n + m ≤ 137438953472) (hB : B ≤ wr.heap.size)
    (h : ∀ v' w', w'.ownsRow B e size v' (n + m) (xs ++ news) → wr.grownBy w' v.ownBlock → wpList P ops Q rest (a.put o.dst v') w') : wpList P ops Q (o :: rest) a (wr.alloc (.cells cs e)) := by
  subst hk
  exact wpList_pushR wr e cs hgd s x t ho B z size bytes ht hinfo hzs hsz hby v n xs hs hown news hcs h1 m c hx hm hn hB h
end
theorem vcells_plain (v : V) : ∀ u ∈ v.cells, u.oneCell' = true := by
  intro u hu
  simp only [V.cells, List.mem_cons, List.not_mem_nil, or_false] at hu
  rcases hu with rfl | rfl | rfl <;> rfl
set_option maxRecDepth 100000 in
set_option maxHeartbeats 4000000 in
theorem One_any (s : ByteArray) (hs : s.size ≤ 16777216) (w : World) (hE : Env w) : Calls Tryz.prog 37 #[.string s] w (OneO (oneS s.data.toList) w) := by
  have HE := Lib.hid hE
  have HC := Lib.hid (Cuts_any s (by omega))
  have hnum := cutsL_num s.data.toList false []
  have HL : Hid (∀ x ∈ cutsL false [] s.data.toList, x.length ≤ s.size) := Lib.hid (fun x hx => by have := cutsL_len _ _ _ _ hx; simpa using this)
  unfold CutsEnd at HC
  have hnum2 : (cutsL false [] s.data.toList).length ≤ s.size := by simpa using hnum
  generalize hl : cutsL false [] s.data.toList = l at HC HL hnum2
  have HO := Lib.hid hl
  clear hl hE hnum
  cases l with
  | nil =>
    have HN : Hid (oneS s.data.toList = none) := Lib.hid (oneS_none HO.out rfl)
    go_enter Tryz.func37, Tryz.ntmps37
    go_wp2_with (go_at_call 79; refine (HC.out _).mono ?_; rintro e w1 ⟨v, rfl, hown, hb1⟩; obtain ⟨la, lc, hv, hx⟩ := own_form hown; clear hx; subst hv; have hbx : Below (w.heap.size + 1) _ w1 := hb1.mono (by simp); have c0 := box_cell hbx 0; have c1 := box_cell hbx 1; have f0 := box_frozen hbx 0; have f1 := box_frozen hbx 1)
    go_quiet (fail)
    go_wp2
    refine bodyPost_ret (by simp [results, Tryz.results37, go_sem, c0, c1]; try rfl) rfl ?_
    exact OneO.no HN.out (((below_drewN (box_below hbx) _).setCell (Nat.le_refl _) _).setCell (Nat.le_refl _) _)
  | cons h ls =>
    obtain ⟨H, rfl⟩ : ∃ H : ByteArray, h = H.data.toList := ⟨⟨h.toArray⟩, rfl⟩
    have hHs : H.size ≤ s.size := by have := HL.out _ (List.mem_cons_self ..); simpa using this
    have hls : ls.length + 1 ≤ s.size := by simpa using hnum2
    generalize hLL : H.data.toList :: ls = l at HC HL HO hnum2
    have HLL := Lib.hid hLL
    have hlen : l.length = ls.length + 1 := by rw [← hLL]; rfl
    have hpos : 0 < l.length := by omega
    have HL0 : Hid (l[0] = H.data.toList) := Lib.hid (by subst hLL; rfl)
    have HLen := Lib.hid hlen
    clear hLL hlen
    have j0 : (0 : Int) < (l.length : Int) := by omega
    have j1 : ((l.length : Int) == 0) = false := by rw [beq_eq_false_iff_ne]; omega
    by_cases h2 : H.size < 2
    · have HN : Hid (oneS s.data.toList = none) := Lib.hid (oneS_none HO.out (by rw [← HLL.out]; exact toldS_no (sqlS_no (.inl (by simpa using h2)))))
      have j2 : decide ((H.size : Int) < 2) = true := by simp; omega
      go_enter Tryz.func37, Tryz.ntmps37
      go_wp2_with (go_at_call 79; refine (HC.out _).mono ?_; rintro e w1 ⟨v, rfl, hown, hb1⟩; obtain ⟨la, lc, hv, hlc, -, hx⟩ := own_form hown; subst hv; obtain ⟨lb, hla⟩ : ∃ lb, la = some ⟨lb, 0, none⟩ := (row_at hx (by omega)); subst hla; clear hx; have hbx : Below (w.heap.size + 1) _ w1 := hb1.mono (by simp); have c0 := box_cell hbx 0; have c1 := box_cell hbx 1; have f0 := box_frozen hbx 0; have f1 := box_frozen hbx 1; have l0 := scell_at hown 0 hpos; rw [HL0.out, arr_self] at l0)
      go_quiet (fail)
      go_wp2
      refine bodyPost_ret (by simp [results, Tryz.results37, go_sem, c0, c1]; try rfl) rfl ?_
      exact OneO.no HN.out (((below_drewN (box_below hbx) _).setCell (Nat.le_refl _) _).setCell (Nat.le_refl _) _)
    · have j2 : decide ((H.size : Int) < 2) = false := by simp; omega
      have z0 : (0 : Int) < (H.size : Int) := by omega
      have z0n : 0 < H.size := by omega
      have z3 : (1 : Int) ≤ (H.size : Int) := by omega
      have z4 : H.size - 1 < H.size := by omega
      have z1 : (0 : Int) ≤ (H.size : Int) - 1 := by omega
      have z2 : (H.size : Int) - 1 < (H.size : Int) := by omega
      have g0 : IntKind.i64.wrap ((H.size : Int) - 1) = (H.size : Int) - 1 := IntWalk.i64_in _ (by omega)
      have g2 : ((H.size : Int) - 1).toNat = H.size - 1 := by omega
      by_cases h3 : H[0] = 39
      · have j3 : ((H[0].toNat : Int) == 39) = true := u8_eq h3
        have j4 : ((H[0].toNat : Int) != 39) = false := by rw [bne, j3]; rfl
        by_cases h4 : H[H.size - 1] = 39
        · have j5 : ((H[H.size - 1].toNat : Int) == 39) = true := u8_eq h4
          have j6 : ((H[H.size - 1].toNat : Int) != 39) = false := by rw [bne, j5]; rfl
          have HSq : Hid (sqlS H.data.toList = rtextL (innerL H.data.toList 1)) := Lib.hid (sqlS_go (by simpa using h2) (by rw [idxk H 0 (by omega), h3]) (by rw [size_len, idxk H (H.size - 1) (by omega), h4]))
          have z5 : (2 : Int) ≤ (H.size : Int) := by omega
          have z6 : (1 : Int) ≤ (H.size : Int) - 1 := by omega
          have z7 : (H.size : Int) - 1 ≤ (H.size : Int) := by omega
          have BY := Lib.hid (Bytes_text (H.extract 1 (H.size - 1)) (by rw [ByteArray.size_extract]; omega))
          have hEx : (H.extract 1 (H.size - 1)).data.toList = innerL H.data.toList 1 := by rw [extract_list]; rfl
          rw [hEx] at BY
          clear h3 h4 hEx
          go_enter Tryz.func37, Tryz.ntmps37
          go_wp2_with (go_at_call 79; refine (HC.out _).mono ?_; rintro e w1 ⟨v, rfl, hown, hb1⟩; obtain ⟨la, lc, hv, hlc, -, hx⟩ := own_form hown; subst hv; obtain ⟨lb, hla⟩ : ∃ lb, la = some ⟨lb, 0, none⟩ := (row_at hx (by omega)); subst hla; clear hx; have hbx : Below (w.heap.size + 1) _ w1 := hb1.mono (by simp); have c0 := box_cell hbx 0; have c1 := box_cell hbx 1; have f0 := box_frozen hbx 0; have f1 := box_frozen hbx 1; have l0 := scell_at hown 0 hpos; rw [HL0.out, arr_self] at l0)
          go_quiet (fail)
          go_wp2_with fail
          go_region_held3 (fun w' => w'.cell? ⟨lb, 0, none⟩ = some (.string H)) (first | exact l0 | exact l3 | go_keep)
            (first | (go_at_call 80; refine (BY.out _).mono ?_; rintro e w3 ⟨sql, ⟨rfl, hb3⟩, hsq⟩; have hb13 : Below w1.heap.size w1 w3 := (below_drew (below_drewN (Below.refl _ w1) _)).trans (hb3.mono (Nat.le_refl _)); have l3 := (hb13.cell (lt_of_cell l0)).trans l0))
          have HOE : Hid (OE l sql 1 [] (rtextL (innerL H.data.toList 1)).isSome) := by
            apply Lib.hid
            rw [← HLL.out]
            cases hr : rtextL (innerL H.data.toList 1) with
            | none => exact OE.off (toldS_no (by rw [HSq.out, hr]))
            | some x => rw [hsq x hr]; exact OE.start (by rw [HSq.out, hr])
          generalize (rtextL (innerL H.data.toList 1)).isSome = okb at HOE ⊢
          have hrb : TBox w1 w.heap.size ByteArray.empty (.slice none 0 0) := (hb1.block _ (by simp)).trans (heap_alloc_new w _)
          have hgz : w.heap.size < w3.heap.size := by have := hb13.size; have := hbx.size; simp at this; omega
          have HM0 : Hid (OM w (w3.alloc (.cells #[.string sql, .slice none 0 0] 71)) w3.heap.size sql [] (.slice none 0 0) (.slice (some ⟨lb, 0, none⟩) l.length lc) l) := Lib.hid
            ⟨(box_below hbx).trans ((hb13.mono (box_below hbx).size).alloc (by omega) _), (hrb.below hb13).below (below_alloc _ _), TBox.new _ _ _, World.ownsRow_nil _ _ _ _, own_kept (own_kept (own_mono (by simp) hown) hb13) (below_alloc _ _), hgz⟩
          clear hsq
          go_wp2_with fail
          go_loopw [6, 8] (fun ok i wr => ∃ (k : Nat) (b : Bool) (vs : List V) (pv : Value), 1 ≤ k ∧ k ≤ l.length ∧ i = .int .i64 k ∧ ok = .bool b ∧ vs.length ≤ k ∧ Hid (OM w wr w3.heap.size sql vs pv (.slice (some ⟨lb, 0, none⟩) l.length lc) l) ∧ Hid (OE l sql k vs b) ∧ Hid (fitVs vs)) (fun _ i _ => l.length - (intOf i).toNat)
          case atStart => exact ⟨1, okb, [], _, by omega, by omega, rfl, rfl, by simp, HM0, HOE, Lib.hid (by intro v hv; cases hv)⟩
          case round =>
            obtain ⟨k, b, vs, pv, hk1, hk2, rfl, rfl, hvl, HM, HQ, HF⟩ := hrel
            obtain ⟨q0, q1, q2, q3⟩ := HM.out.bx.cells
            obtain ⟨p0, p1, p2, p3⟩ := HM.out.rb.cells
            by_cases hlt : k < l.length
            · cases b with
              | true =>
                have hsz : (⟨l[k].toArray⟩ : ByteArray).size ≤ 100000000 := by have := HL.out l[k] (List.getElem_mem hlt); simp [ByteArray.size]; omega
                have RR : ∀ w', Calls Tryz.prog 81 #[.string ⟨l[k].toArray⟩] w' (RReadO (rread l[k]) w') := fun w' => RRead_any ⟨l[k].toArray⟩ hsz w'
                have hc := scell_at HM.out.ls k hlt
                have hvb : vs.length ≤ 100000000 := by omega
                cases hr : rread l[k] with
                | some v =>
                  have HQ1 := Lib.hid (HQ.out.hit hlt hr)
                  have HF1 : Hid (fitVs (vs ++ [v])) := Lib.hid (fit_push HF.out (rread_fit hr))
                  unfold RReadO at RR
                  simp only [hr, V.val] at RR
                  have RR := Lib.hid RR
                  clear hr hsz
                  generalize (⟨l[k].toArray⟩ : ByteArray) = piece at RR hc
                  go_wp2_with (first
                    | (go_at_call 81; refine (RR.out _).mono ?_; rintro e w5 ⟨rfl, hb5⟩; have HM5 := Lib.hid ((HM.out.below hb5).alloc (.cells #[.int .i64 (v).k, .int .i64 (v).n, .string (v).s] 80)); obtain ⟨r0, r1, r2, r3⟩ := HM5.out.bx.cells)
                    | (at_builtin; refine wpList_pushR2 (w5.alloc (.cells #[.int .i64 (v).k, .int .i64 (v).n, .string (v).s] 80)) 80 _ rfl (.tmp 76) (.tmp 78) _ rfl w.heap.size _ 3 32 Tryz.underlying40 infoV rfl (by decide) (by decide) _ vs.length (vcells vs) rfl HM5.out.own (v).cells rfl (vcells_plain _) 1 1 _ (by simp) rfl rfl (by omega) HM5.out.bl.size ?_; intro v6 w6 hown6 hg6; obtain ⟨pa6, pc6, he6, hx6⟩ := own_form hown6; clear hx6; subst he6; have HM6 := Lib.hid (HM5.out.push v hown6 hg6); obtain ⟨s0, s1, s2, s3⟩ := (HM5.out.bx.grown HM5.out.own hg6).cells))
                  go_roundw
                  case rel => first | exact ⟨k + 1, true, vs ++ [v], _, by omega, by omega, by go_num, rfl, by simp; omega, HM6, HQ1, HF1⟩ | ((repeat apply Exists.intro); exact ⟨⟨k + 1, true, vs ++ [v], _, by omega, by omega, by go_num, rfl, by simp; omega, HM6, HQ1, HF1⟩, rfl⟩)
                  case measure => simp [intOf]; omega
                | none =>
                  have HQ1 := Lib.hid (HQ.out.miss (us := vs ++ [V.mk 0 0 ByteArray.empty]) hlt hr)
                  have HF1 : Hid (fitVs (vs ++ [V.mk 0 0 ByteArray.empty])) := Lib.hid (fit_push HF.out ⟨by decide, by decide⟩)
                  unfold RReadO at RR
                  simp only [hr, V.val] at RR
                  have RR := Lib.hid RR
                  clear hr hsz
                  generalize (⟨l[k].toArray⟩ : ByteArray) = piece at RR hc
                  go_wp2_with (first
                    | (go_at_call 81; refine (RR.out _).mono ?_; rintro e w5 ⟨en, hen, rfl, hb5⟩; have HM5 := Lib.hid ((HM.out.below hb5).alloc (.cells #[.int .i64 ((V.mk 0 0 ByteArray.empty)).k, .int .i64 ((V.mk 0 0 ByteArray.empty)).n, .string ((V.mk 0 0 ByteArray.empty)).s] 80)); obtain ⟨r0, r1, r2, r3⟩ := HM5.out.bx.cells)
                    | (at_builtin; refine wpList_pushR2 (w5.alloc (.cells #[.int .i64 ((V.mk 0 0 ByteArray.empty)).k, .int .i64 ((V.mk 0 0 ByteArray.empty)).n, .string ((V.mk 0 0 ByteArray.empty)).s] 80)) 80 _ rfl (.tmp 76) (.tmp 78) _ rfl w.heap.size _ 3 32 Tryz.underlying40 infoV rfl (by decide) (by decide) _ vs.length (vcells vs) rfl HM5.out.own ((V.mk 0 0 ByteArray.empty)).cells rfl (vcells_plain _) 1 1 _ (by simp) rfl rfl (by omega) HM5.out.bl.size ?_; intro v6 w6 hown6 hg6; obtain ⟨pa6, pc6, he6, hx6⟩ := own_form hown6; clear hx6; subst he6; have HM6 := Lib.hid (HM5.out.push (V.mk 0 0 ByteArray.empty) hown6 hg6); obtain ⟨s0, s1, s2, s3⟩ := (HM5.out.bx.grown HM5.out.own hg6).cells))
                  go_roundw
                  case rel => first | exact ⟨k + 1, false, vs ++ [(V.mk 0 0 ByteArray.empty)], _, by omega, by omega, by go_num, rfl, by simp; omega, HM6, HQ1, HF1⟩ | ((repeat apply Exists.intro); exact ⟨⟨k + 1, false, vs ++ [(V.mk 0 0 ByteArray.empty)], _, by omega, by omega, by go_num, rfl, by simp; omega, HM6, HQ1, HF1⟩, rfl⟩)
                  case measure => simp [intOf]; omega
              | false =>
                have HN : Hid (oneS s.data.toList = none) := Lib.hid (oneS_none HO.out HQ.out.lost)
                obtain ⟨pa, pc, hpv, -, -, hx⟩ := own_form HM.out.own
                clear hx
                subst hpv
                go_wp2_with fail
                refine wp_region_held_drew (S := fun w' => w'.cell? ⟨w3.heap.size, 0, none⟩ = some (.string sql) ∧ w'.cell? ⟨w3.heap.size, 1, none⟩ = some (.slice pa vs.length pc)) (by kernel_rfl) ⟨q0, q1⟩ (fun hHeld => ?_)
                (refine wpAnyH_take (i := 0) (v := (.agg #[.string sql, .slice pa vs.length pc])) rfl (by kernel_rfl) (by kernel_rfl) (by kernel_rfl) (fun _ _ _ h => h) (Or.inl ⟨by rfl, by intro w hSw; obtain ⟨s0, s1⟩ := hSw; go_simp; try with_reducible rfl⟩) (by assumption) ?_; simp only [List.getElem_toArray, List.getElem_cons_zero, Act.put, List.setIfInBounds_toArray, List.set_cons_succ, List.set_cons_zero])
                (refine wpAnyH_take (i := 1) (v := (.bool false)) rfl (by kernel_rfl) (by kernel_rfl) (by kernel_rfl) (fun _ _ _ h => h) (Or.inl ⟨by rfl, by intro w hSw; obtain ⟨s0, s1⟩ := hSw; go_simp; try with_reducible rfl⟩) (by assumption) ?_; simp only [List.getElem_toArray, List.getElem_cons_succ, List.getElem_cons_zero, Act.put, List.setIfInBounds_toArray, List.set_cons_succ, List.set_cons_zero])
                (refine wpAnyH_take (i := 2) (v := (.bool false)) rfl (by kernel_rfl) (by kernel_rfl) (by kernel_rfl) (fun _ _ _ h => h) (Or.inl ⟨by rfl, by intro w hSw; obtain ⟨s0, s1⟩ := hSw; go_simp; try with_reducible rfl⟩) (by assumption) ?_; simp only [List.getElem_toArray, List.getElem_cons_succ, List.getElem_cons_zero, Act.put, List.setIfInBounds_toArray, List.set_cons_succ, List.set_cons_zero])
                (refine wpAnyH_take (i := 3) (v := undef) rfl (by kernel_rfl) (by kernel_rfl) (by kernel_rfl) (fun _ _ _ h => h) (Or.inr ⟨by rfl, rfl⟩) (by assumption) ?_; simp only [List.getElem_toArray, List.getElem_cons_succ, List.getElem_cons_zero, Act.put, List.setIfInBounds_toArray, List.set_cons_succ, List.set_cons_zero])
                (refine wpAnyH_take (i := 4) (v := undef) rfl (by kernel_rfl) (by kernel_rfl) (by kernel_rfl) (fun _ _ _ h => h) (Or.inr ⟨by rfl, rfl⟩) (by assumption) ?_; simp only [List.getElem_toArray, List.getElem_cons_succ, List.getElem_cons_zero, Act.put, List.setIfInBounds_toArray, List.set_cons_succ, List.set_cons_zero])
                (refine wpAnyH_take (i := 5) (v := (.bool false)) rfl (by kernel_rfl) (by kernel_rfl) (by kernel_rfl) (fun _ _ _ h => h) (Or.inl ⟨by rfl, by intro w hSw; obtain ⟨s0, s1⟩ := hSw; go_simp; try with_reducible rfl⟩) (by assumption) ?_; simp only [List.getElem_toArray, List.getElem_cons_succ, List.getElem_cons_zero, Act.put, List.setIfInBounds_toArray, List.set_cons_succ, List.set_cons_zero])
                (refine wpAnyH_take (i := 6) (v := (.bool false)) rfl (by kernel_rfl) (by kernel_rfl) (by kernel_rfl) (fun _ _ _ h => h) (Or.inl ⟨by rfl, by intro w hSw; obtain ⟨s0, s1⟩ := hSw; go_simp; try with_reducible rfl⟩) (by assumption) ?_; simp only [List.getElem_toArray, List.getElem_cons_succ, List.getElem_cons_zero, Act.put, List.setIfInBounds_toArray, List.set_cons_succ, List.set_cons_zero])
                (refine wpAnyH_take (i := 7) (v := undef) rfl (by kernel_rfl) (by kernel_rfl) (by kernel_rfl) (fun _ _ _ h => h) (Or.inr ⟨by rfl, rfl⟩) (by assumption) ?_; simp only [List.getElem_toArray, List.getElem_cons_succ, List.getElem_cons_zero, Act.put, List.setIfInBounds_toArray, List.set_cons_succ, List.set_cons_zero])
                (refine wpAnyH_take (i := 8) (v := undef) rfl (by kernel_rfl) (by kernel_rfl) (by kernel_rfl) (fun _ _ _ h => h) (Or.inr ⟨by rfl, rfl⟩) (by assumption) ?_; simp only [List.getElem_toArray, List.getElem_cons_succ, List.getElem_cons_zero, Act.put, List.setIfInBounds_toArray, List.set_cons_succ, List.set_cons_zero])
                (refine wpAnyH_take (i := 9) (v := undef) rfl (by kernel_rfl) (by kernel_rfl) (by kernel_rfl) (fun _ _ _ h => h) (Or.inr ⟨by rfl, rfl⟩) (by assumption) ?_; simp only [List.getElem_toArray, List.getElem_cons_succ, List.getElem_cons_zero, Act.put, List.setIfInBounds_toArray, List.set_cons_succ, List.set_cons_zero])
                (refine wpAnyH_take (i := 10) (v := undef) rfl (by kernel_rfl) (by kernel_rfl) (by kernel_rfl) (fun _ _ _ h => h) (Or.inr ⟨by rfl, rfl⟩) (by assumption) ?_; simp only [List.getElem_toArray, List.getElem_cons_succ, List.getElem_cons_zero, Act.put, List.setIfInBounds_toArray, List.set_cons_succ, List.set_cons_zero])
                (refine wpAnyH_take (i := 11) (v := (.bool false)) rfl (by kernel_rfl) (by kernel_rfl) (by kernel_rfl) (fun _ _ _ h => h) (Or.inl ⟨by rfl, by intro w hSw; obtain ⟨s0, s1⟩ := hSw; go_simp; try with_reducible rfl⟩) (by assumption) ?_; simp only [List.getElem_toArray, List.getElem_cons_succ, List.getElem_cons_zero, Act.put, List.setIfInBounds_toArray, List.set_cons_succ, List.set_cons_zero])
                refine wpAnyH_ready (rs := [12]) (by kernel_rfl) (by simp) (AllReadyH.cons rfl (fun K hK => ?_) AllReadyH.nil)
                go_simp
                have hgb : w.heap.size ≠ w3.heap.size := by omega
                refine hK.out _ _ ⟨by change World.cell? (World.setCell (World.setCell _ _ _) _ _) _ = _; rw [World.cell?_setCell_far _ _ _ _ hgb, World.cell?_setCell_far _ _ _ _ hgb]; exact q0, by change World.cell? (World.setCell (World.setCell _ _ _) _ _) _ = _; rw [World.cell?_setCell_far _ _ _ _ hgb, World.cell?_setCell_far _ _ _ _ hgb]; exact q1⟩ (fun hHeld2 => ?_)
                clear hK K
                (refine wpAnyH_take (i := 13) (v := (.bool false)) rfl (by kernel_rfl) (by kernel_rfl) (by kernel_rfl) (fun _ _ _ h => h) (Or.inl ⟨by rfl, by intro w hSw; obtain ⟨s0, s1⟩ := hSw; go_simp; try with_reducible rfl⟩) (by assumption) ?_; simp only [List.getElem_toArray, List.getElem_cons_succ, List.getElem_cons_zero, Act.put, List.setIfInBounds_toArray, List.set_cons_succ, List.set_cons_zero])
                refine wpAnyH_done (by kernel_rfl) ?_ _
                go_wp2
                refine bodyPost_ret (by simp [results, Tryz.results37, go_sem, p0, p1]; try rfl) rfl ?_
                exact OneO.no HN.out (below_drew ((HM.out.bl.setCell (Nat.le_refl _) _).setCell (Nat.le_refl _) _))
            · have hkl : k = l.length := by omega
              subst hkl
              cases b with
              | false =>
                have HN : Hid (oneS s.data.toList = none) := Lib.hid (oneS_none HO.out HQ.out.lost)
                obtain ⟨pa, pc, hpv, -, -, hx⟩ := own_form HM.out.own
                clear hx
                subst hpv
                go_wp2_with fail
                refine wp_region_held_drew (S := fun w' => w'.cell? ⟨w3.heap.size, 0, none⟩ = some (.string sql) ∧ w'.cell? ⟨w3.heap.size, 1, none⟩ = some (.slice pa vs.length pc)) (by kernel_rfl) ⟨q0, q1⟩ (fun hHeld => ?_)
                (refine wpAnyH_take (i := 0) (v := (.agg #[.string sql, .slice pa vs.length pc])) rfl (by kernel_rfl) (by kernel_rfl) (by kernel_rfl) (fun _ _ _ h => h) (Or.inl ⟨by rfl, by intro w hSw; obtain ⟨s0, s1⟩ := hSw; go_simp; try with_reducible rfl⟩) (by assumption) ?_; simp only [List.getElem_toArray, List.getElem_cons_zero, Act.put, List.setIfInBounds_toArray, List.set_cons_succ, List.set_cons_zero])
                (refine wpAnyH_take (i := 1) (v := (.bool false)) rfl (by kernel_rfl) (by kernel_rfl) (by kernel_rfl) (fun _ _ _ h => h) (Or.inl ⟨by rfl, by intro w hSw; obtain ⟨s0, s1⟩ := hSw; go_simp; try with_reducible rfl⟩) (by assumption) ?_; simp only [List.getElem_toArray, List.getElem_cons_succ, List.getElem_cons_zero, Act.put, List.setIfInBounds_toArray, List.set_cons_succ, List.set_cons_zero])
                (refine wpAnyH_take (i := 2) (v := (.bool false)) rfl (by kernel_rfl) (by kernel_rfl) (by kernel_rfl) (fun _ _ _ h => h) (Or.inl ⟨by rfl, by intro w hSw; obtain ⟨s0, s1⟩ := hSw; go_simp; try with_reducible rfl⟩) (by assumption) ?_; simp only [List.getElem_toArray, List.getElem_cons_succ, List.getElem_cons_zero, Act.put, List.setIfInBounds_toArray, List.set_cons_succ, List.set_cons_zero])
                (refine wpAnyH_take (i := 3) (v := undef) rfl (by kernel_rfl) (by kernel_rfl) (by kernel_rfl) (fun _ _ _ h => h) (Or.inr ⟨by rfl, rfl⟩) (by assumption) ?_; simp only [List.getElem_toArray, List.getElem_cons_succ, List.getElem_cons_zero, Act.put, List.setIfInBounds_toArray, List.set_cons_succ, List.set_cons_zero])
                (refine wpAnyH_take (i := 4) (v := undef) rfl (by kernel_rfl) (by kernel_rfl) (by kernel_rfl) (fun _ _ _ h => h) (Or.inr ⟨by rfl, rfl⟩) (by assumption) ?_; simp only [List.getElem_toArray, List.getElem_cons_succ, List.getElem_cons_zero, Act.put, List.setIfInBounds_toArray, List.set_cons_succ, List.set_cons_zero])
                (refine wpAnyH_take (i := 5) (v := (.bool false)) rfl (by kernel_rfl) (by kernel_rfl) (by kernel_rfl) (fun _ _ _ h => h) (Or.inl ⟨by rfl, by intro w hSw; obtain ⟨s0, s1⟩ := hSw; go_simp; try with_reducible rfl⟩) (by assumption) ?_; simp only [List.getElem_toArray, List.getElem_cons_succ, List.getElem_cons_zero, Act.put, List.setIfInBounds_toArray, List.set_cons_succ, List.set_cons_zero])
                (refine wpAnyH_take (i := 6) (v := (.bool false)) rfl (by kernel_rfl) (by kernel_rfl) (by kernel_rfl) (fun _ _ _ h => h) (Or.inl ⟨by rfl, by intro w hSw; obtain ⟨s0, s1⟩ := hSw; go_simp; try with_reducible rfl⟩) (by assumption) ?_; simp only [List.getElem_toArray, List.getElem_cons_succ, List.getElem_cons_zero, Act.put, List.setIfInBounds_toArray, List.set_cons_succ, List.set_cons_zero])
                (refine wpAnyH_take (i := 7) (v := undef) rfl (by kernel_rfl) (by kernel_rfl) (by kernel_rfl) (fun _ _ _ h => h) (Or.inr ⟨by rfl, rfl⟩) (by assumption) ?_; simp only [List.getElem_toArray, List.getElem_cons_succ, List.getElem_cons_zero, Act.put, List.setIfInBounds_toArray, List.set_cons_succ, List.set_cons_zero])
                (refine wpAnyH_take (i := 8) (v := undef) rfl (by kernel_rfl) (by kernel_rfl) (by kernel_rfl) (fun _ _ _ h => h) (Or.inr ⟨by rfl, rfl⟩) (by assumption) ?_; simp only [List.getElem_toArray, List.getElem_cons_succ, List.getElem_cons_zero, Act.put, List.setIfInBounds_toArray, List.set_cons_succ, List.set_cons_zero])
                (refine wpAnyH_take (i := 9) (v := undef) rfl (by kernel_rfl) (by kernel_rfl) (by kernel_rfl) (fun _ _ _ h => h) (Or.inr ⟨by rfl, rfl⟩) (by assumption) ?_; simp only [List.getElem_toArray, List.getElem_cons_succ, List.getElem_cons_zero, Act.put, List.setIfInBounds_toArray, List.set_cons_succ, List.set_cons_zero])
                (refine wpAnyH_take (i := 10) (v := undef) rfl (by kernel_rfl) (by kernel_rfl) (by kernel_rfl) (fun _ _ _ h => h) (Or.inr ⟨by rfl, rfl⟩) (by assumption) ?_; simp only [List.getElem_toArray, List.getElem_cons_succ, List.getElem_cons_zero, Act.put, List.setIfInBounds_toArray, List.set_cons_succ, List.set_cons_zero])
                (refine wpAnyH_take (i := 11) (v := (.bool false)) rfl (by kernel_rfl) (by kernel_rfl) (by kernel_rfl) (fun _ _ _ h => h) (Or.inl ⟨by rfl, by intro w hSw; obtain ⟨s0, s1⟩ := hSw; go_simp; try with_reducible rfl⟩) (by assumption) ?_; simp only [List.getElem_toArray, List.getElem_cons_succ, List.getElem_cons_zero, Act.put, List.setIfInBounds_toArray, List.set_cons_succ, List.set_cons_zero])
                refine wpAnyH_ready (rs := [12]) (by kernel_rfl) (by simp) (AllReadyH.cons rfl (fun K hK => ?_) AllReadyH.nil)
                go_simp
                have hgb : w.heap.size ≠ w3.heap.size := by omega
                refine hK.out _ _ ⟨by change World.cell? (World.setCell (World.setCell _ _ _) _ _) _ = _; rw [World.cell?_setCell_far _ _ _ _ hgb, World.cell?_setCell_far _ _ _ _ hgb]; exact q0, by change World.cell? (World.setCell (World.setCell _ _ _) _ _) _ = _; rw [World.cell?_setCell_far _ _ _ _ hgb, World.cell?_setCell_far _ _ _ _ hgb]; exact q1⟩ (fun hHeld2 => ?_)
                clear hK K
                (refine wpAnyH_take (i := 13) (v := (.bool false)) rfl (by kernel_rfl) (by kernel_rfl) (by kernel_rfl) (fun _ _ _ h => h) (Or.inl ⟨by rfl, by intro w hSw; obtain ⟨s0, s1⟩ := hSw; go_simp; try with_reducible rfl⟩) (by assumption) ?_; simp only [List.getElem_toArray, List.getElem_cons_succ, List.getElem_cons_zero, Act.put, List.setIfInBounds_toArray, List.set_cons_succ, List.set_cons_zero])
                refine wpAnyH_done (by kernel_rfl) ?_ _
                go_wp2
                refine bodyPost_ret (by simp [results, Tryz.results37, go_sem, p0, p1]; try rfl) rfl ?_
                exact OneO.no HN.out (below_drew ((HM.out.bl.setCell (Nat.le_refl _) _).setCell (Nat.le_refl _) _))
              | true =>
                have HT : Hid (oneS s.data.toList = if (T.mk sql vs).may = true ∧ (T.mk sql vs).part = s.data.toList then some ⟨sql, vs⟩ else none) := Lib.hid (oneS_some HO.out (HQ.out.done (Nat.le_refl _)))
                obtain ⟨pa, pc, hpv, -, -, hx⟩ := own_form HM.out.own
                clear hx
                subst hpv
                have HMy := Lib.hid (fun w' h => rmay_any sql pa vs.length pc vs rfl w' h)
                simp only [toldV] at HMy
                cases hm : (T.mk sql vs).may with
                | false =>
                  have HN : Hid (oneS s.data.toList = none) := Lib.hid (by rw [HT.out, hm, if_neg (by simp)])
                  rw [hm] at HMy
                  clear hm
                  go_wp2_with fail
                  refine wp_region_held_drew (S := fun w' => w'.cell? ⟨w3.heap.size, 0, none⟩ = some (.string sql) ∧ w'.cell? ⟨w3.heap.size, 1, none⟩ = some (.slice pa vs.length pc)) (by kernel_rfl) ⟨q0, q1⟩ (fun hHeld => ?_)
                  (refine wpAnyH_take (i := 0) (v := (.agg #[.string sql, .slice pa vs.length pc])) rfl (by kernel_rfl) (by kernel_rfl) (by kernel_rfl) (fun _ _ _ h => h) (Or.inl ⟨by rfl, by intro w hSw; obtain ⟨s0, s1⟩ := hSw; go_simp; try with_reducible rfl⟩) (by assumption) ?_; simp only [List.getElem_toArray, List.getElem_cons_zero, Act.put, List.setIfInBounds_toArray, List.set_cons_succ, List.set_cons_zero])
                  (refine wpAnyH_take (i := 1) (v := (.bool true)) rfl (by kernel_rfl) (by kernel_rfl) (by kernel_rfl) (fun _ _ _ h => h) (Or.inl ⟨by rfl, by intro w hSw; obtain ⟨s0, s1⟩ := hSw; go_simp; try with_reducible rfl⟩) (by assumption) ?_; simp only [List.getElem_toArray, List.getElem_cons_succ, List.getElem_cons_zero, Act.put, List.setIfInBounds_toArray, List.set_cons_succ, List.set_cons_zero])
                  (refine wpAnyH_take (i := 2) (v := (.bool true)) rfl (by kernel_rfl) (by kernel_rfl) (by kernel_rfl) (fun _ _ _ h => h) (Or.inl ⟨by rfl, by intro w hSw; obtain ⟨s0, s1⟩ := hSw; go_simp; try with_reducible rfl⟩) (by assumption) ?_; simp only [List.getElem_toArray, List.getElem_cons_succ, List.getElem_cons_zero, Act.put, List.setIfInBounds_toArray, List.set_cons_succ, List.set_cons_zero])
                  (refine wpAnyH_take (i := 3) (v := (.agg #[.string sql, .slice pa vs.length pc])) rfl (by kernel_rfl) (by kernel_rfl) (by kernel_rfl) (fun _ _ _ h => h) (Or.inl ⟨by rfl, by intro w hSw; obtain ⟨s0, s1⟩ := hSw; go_simp; try with_reducible rfl⟩) (by assumption) ?_; simp only [List.getElem_toArray, List.getElem_cons_succ, List.getElem_cons_zero, Act.put, List.setIfInBounds_toArray, List.set_cons_succ, List.set_cons_zero])
                  refine wpAnyH_ready (rs := [4]) (by kernel_rfl) (by simp) (AllReadyH.cons rfl (fun K hK => ?_) AllReadyH.nil)
                  go_simp
                  go_at_call 32
                  refine (HMy.out _ (own_vs HM.out.drew.own)).mono ?_
                  rintro e w5 ⟨rfl, hb5⟩
                  have HM5 := Lib.hid (HM.out.drew.below hb5)
                  obtain ⟨r0, r1, r2, r3⟩ := HM5.out.bx.cells
                  obtain ⟨x0, x1, x2, x3⟩ := HM5.out.rb.cells
                  try go_simp
                  refine hK.out _ _ ⟨r0, r1⟩ (fun hHeld5 => ?_)
                  clear hK K
                  (refine wpAnyH_take (i := 5) (v := (.bool false)) rfl (by kernel_rfl) (by kernel_rfl) (by kernel_rfl) (fun _ _ _ h => h) (Or.inl ⟨by rfl, by intro w hSw; obtain ⟨s0, s1⟩ := hSw; go_simp; try with_reducible rfl⟩) (by assumption) ?_; simp only [List.getElem_toArray, List.getElem_cons_succ, List.getElem_cons_zero, Act.put, List.setIfInBounds_toArray, List.set_cons_succ, List.set_cons_zero])
                  (refine wpAnyH_take (i := 6) (v := (.bool false)) rfl (by kernel_rfl) (by kernel_rfl) (by kernel_rfl) (fun _ _ _ h => h) (Or.inl ⟨by rfl, by intro w hSw; obtain ⟨s0, s1⟩ := hSw; go_simp; try with_reducible rfl⟩) (by assumption) ?_; simp only [List.getElem_toArray, List.getElem_cons_succ, List.getElem_cons_zero, Act.put, List.setIfInBounds_toArray, List.set_cons_succ, List.set_cons_zero])
                  (refine wpAnyH_take (i := 7) (v := undef) rfl (by kernel_rfl) (by kernel_rfl) (by kernel_rfl) (fun _ _ _ h => h) (Or.inr ⟨by rfl, rfl⟩) (by assumption) ?_; simp only [List.getElem_toArray, List.getElem_cons_succ, List.getElem_cons_zero, Act.put, List.setIfInBounds_toArray, List.set_cons_succ, List.set_cons_zero])
                  (refine wpAnyH_take (i := 8) (v := undef) rfl (by kernel_rfl) (by kernel_rfl) (by kernel_rfl) (fun _ _ _ h => h) (Or.inr ⟨by rfl, rfl⟩) (by assumption) ?_; simp only [List.getElem_toArray, List.getElem_cons_succ, List.getElem_cons_zero, Act.put, List.setIfInBounds_toArray, List.set_cons_succ, List.set_cons_zero])
                  (refine wpAnyH_take (i := 9) (v := undef) rfl (by kernel_rfl) (by kernel_rfl) (by kernel_rfl) (fun _ _ _ h => h) (Or.inr ⟨by rfl, rfl⟩) (by assumption) ?_; simp only [List.getElem_toArray, List.getElem_cons_succ, List.getElem_cons_zero, Act.put, List.setIfInBounds_toArray, List.set_cons_succ, List.set_cons_zero])
                  (refine wpAnyH_take (i := 10) (v := undef) rfl (by kernel_rfl) (by kernel_rfl) (by kernel_rfl) (fun _ _ _ h => h) (Or.inr ⟨by rfl, rfl⟩) (by assumption) ?_; simp only [List.getElem_toArray, List.getElem_cons_succ, List.getElem_cons_zero, Act.put, List.setIfInBounds_toArray, List.set_cons_succ, List.set_cons_zero])
                  (refine wpAnyH_take (i := 11) (v := (.bool false)) rfl (by kernel_rfl) (by kernel_rfl) (by kernel_rfl) (fun _ _ _ h => h) (Or.inl ⟨by rfl, by intro w hSw; obtain ⟨s0, s1⟩ := hSw; go_simp; try with_reducible rfl⟩) (by assumption) ?_; simp only [List.getElem_toArray, List.getElem_cons_succ, List.getElem_cons_zero, Act.put, List.setIfInBounds_toArray, List.set_cons_succ, List.set_cons_zero])
                  refine wpAnyH_ready (rs := [12]) (by kernel_rfl) (by simp) (AllReadyH.cons rfl (fun K hK => ?_) AllReadyH.nil)
                  go_simp
                  have hgb : w.heap.size ≠ w3.heap.size := by omega
                  refine hK.out _ _ ⟨by change World.cell? (World.setCell (World.setCell _ _ _) _ _) _ = _; rw [World.cell?_setCell_far _ _ _ _ hgb, World.cell?_setCell_far _ _ _ _ hgb]; exact r0, by change World.cell? (World.setCell (World.setCell _ _ _) _ _) _ = _; rw [World.cell?_setCell_far _ _ _ _ hgb, World.cell?_setCell_far _ _ _ _ hgb]; exact r1⟩ (fun hHeld2 => ?_)
                  clear hK K
                  (refine wpAnyH_take (i := 13) (v := (.bool false)) rfl (by kernel_rfl) (by kernel_rfl) (by kernel_rfl) (fun _ _ _ h => h) (Or.inl ⟨by rfl, by intro w hSw; obtain ⟨s0, s1⟩ := hSw; go_simp; try with_reducible rfl⟩) (by assumption) ?_; simp only [List.getElem_toArray, List.getElem_cons_succ, List.getElem_cons_zero, Act.put, List.setIfInBounds_toArray, List.set_cons_succ, List.set_cons_zero])
                  refine wpAnyH_done (by kernel_rfl) ?_ _
                  go_wp2
                  refine bodyPost_ret (by simp [results, Tryz.results37, go_sem, x0, x1]; try rfl) rfl ?_
                  exact OneO.no HN.out ((HM5.out.bl.setCell (Nat.le_refl _) _).setCell (Nat.le_refl _) _)
                | true =>
                  have hlen := toldS_len (HQ.out.done (Nat.le_refl _)) s.size HL.out
                  have HPt := Lib.hid (fun W (hb : Below w.heap.size w W) hv => rPart_any sql pa vs.length pc vs rfl (by have := hlen; simp only at this; omega) (by omega) HF.out W (HE.out.below hb) hv)
                  simp only [toldV] at HPt
                  by_cases hp : (T.mk sql vs).part = s.data.toList
                  · have HY : Hid (oneS s.data.toList = some ⟨sql, vs⟩) := Lib.hid (by rw [HT.out, if_pos ⟨hm, hp⟩])
                    rw [hm] at HMy
                    simp only [hp, arr_self] at HPt
                    clear hm hp hlen
                    go_wp2_with fail
                    refine wp_region_held_drew (S := fun w' => w'.cell? ⟨w3.heap.size, 0, none⟩ = some (.string sql) ∧ w'.cell? ⟨w3.heap.size, 1, none⟩ = some (.slice pa vs.length pc)) (by kernel_rfl) ⟨q0, q1⟩ (fun hHeld => ?_)
                    (refine wpAnyH_take (i := 0) (v := (.agg #[.string sql, .slice pa vs.length pc])) rfl (by kernel_rfl) (by kernel_rfl) (by kernel_rfl) (fun _ _ _ h => h) (Or.inl ⟨by rfl, by intro w hSw; obtain ⟨s0, s1⟩ := hSw; go_simp; try with_reducible rfl⟩) (by assumption) ?_; simp only [List.getElem_toArray, List.getElem_cons_zero, Act.put, List.setIfInBounds_toArray, List.set_cons_succ, List.set_cons_zero])
                    (refine wpAnyH_take (i := 1) (v := (.bool true)) rfl (by kernel_rfl) (by kernel_rfl) (by kernel_rfl) (fun _ _ _ h => h) (Or.inl ⟨by rfl, by intro w hSw; obtain ⟨s0, s1⟩ := hSw; go_simp; try with_reducible rfl⟩) (by assumption) ?_; simp only [List.getElem_toArray, List.getElem_cons_succ, List.getElem_cons_zero, Act.put, List.setIfInBounds_toArray, List.set_cons_succ, List.set_cons_zero])
                    (refine wpAnyH_take (i := 2) (v := (.bool true)) rfl (by kernel_rfl) (by kernel_rfl) (by kernel_rfl) (fun _ _ _ h => h) (Or.inl ⟨by rfl, by intro w hSw; obtain ⟨s0, s1⟩ := hSw; go_simp; try with_reducible rfl⟩) (by assumption) ?_; simp only [List.getElem_toArray, List.getElem_cons_succ, List.getElem_cons_zero, Act.put, List.setIfInBounds_toArray, List.set_cons_succ, List.set_cons_zero])
                    (refine wpAnyH_take (i := 3) (v := (.agg #[.string sql, .slice pa vs.length pc])) rfl (by kernel_rfl) (by kernel_rfl) (by kernel_rfl) (fun _ _ _ h => h) (Or.inl ⟨by rfl, by intro w hSw; obtain ⟨s0, s1⟩ := hSw; go_simp; try with_reducible rfl⟩) (by assumption) ?_; simp only [List.getElem_toArray, List.getElem_cons_succ, List.getElem_cons_zero, Act.put, List.setIfInBounds_toArray, List.set_cons_succ, List.set_cons_zero])
                    refine wpAnyH_ready (rs := [4]) (by kernel_rfl) (by simp) (AllReadyH.cons rfl (fun K hK => ?_) AllReadyH.nil)
                    go_simp
                    go_at_call 32
                    refine (HMy.out _ (own_vs HM.out.drew.own)).mono ?_
                    rintro e w5 ⟨rfl, hb5⟩
                    have HM5 := Lib.hid (HM.out.drew.below hb5)
                    obtain ⟨r0, r1, r2, r3⟩ := HM5.out.bx.cells
                    obtain ⟨x0, x1, x2, x3⟩ := HM5.out.rb.cells
                    try go_simp
                    refine hK.out _ _ ⟨r0, r1⟩ (fun hHeld5 => ?_)
                    clear hK K
                    (refine wpAnyH_take (i := 5) (v := (.bool true)) rfl (by kernel_rfl) (by kernel_rfl) (by kernel_rfl) (fun _ _ _ h => h) (Or.inl ⟨by rfl, by intro w hSw; obtain ⟨s0, s1⟩ := hSw; go_simp; try with_reducible rfl⟩) (by assumption) ?_; simp only [List.getElem_toArray, List.getElem_cons_succ, List.getElem_cons_zero, Act.put, List.setIfInBounds_toArray, List.set_cons_succ, List.set_cons_zero])
                    (refine wpAnyH_take (i := 6) (v := (.bool true)) rfl (by kernel_rfl) (by kernel_rfl) (by kernel_rfl) (fun _ _ _ h => h) (Or.inl ⟨by rfl, by intro w hSw; obtain ⟨s0, s1⟩ := hSw; go_simp; try with_reducible rfl⟩) (by assumption) ?_; simp only [List.getElem_toArray, List.getElem_cons_succ, List.getElem_cons_zero, Act.put, List.setIfInBounds_toArray, List.set_cons_succ, List.set_cons_zero])
                    (refine wpAnyH_take (i := 7) (v := (.agg #[.string sql, .slice pa vs.length pc])) rfl (by kernel_rfl) (by kernel_rfl) (by kernel_rfl) (fun _ _ _ h => h) (Or.inl ⟨by rfl, by intro w hSw; obtain ⟨s0, s1⟩ := hSw; go_simp; try with_reducible rfl⟩) (by assumption) ?_; simp only [List.getElem_toArray, List.getElem_cons_succ, List.getElem_cons_zero, Act.put, List.setIfInBounds_toArray, List.set_cons_succ, List.set_cons_zero])
                    (refine wpAnyH_take (i := 9) (v := (.string s)) rfl (by kernel_rfl) (by kernel_rfl) (by kernel_rfl) (fun _ _ _ h => h) (Or.inl ⟨by rfl, by intro w hSw; obtain ⟨s0, s1⟩ := hSw; go_simp; try with_reducible rfl⟩) (by assumption) ?_; simp only [List.getElem_toArray, List.getElem_cons_succ, List.getElem_cons_zero, Act.put, List.setIfInBounds_toArray, List.set_cons_succ, List.set_cons_zero])
                    refine wpAnyH_ready (rs := [8]) (by kernel_rfl) (by simp) (AllReadyH.cons rfl (fun K hK => ?_) AllReadyH.nil)
                    go_simp
                    go_at_call 33
                    refine (HPt.out _ HM5.out.bl (own_vs HM5.out.own)).mono ?_
                    rintro e w6 ⟨rfl, hb6⟩
                    have HM6 := Lib.hid (HM5.out.below hb6)
                    obtain ⟨t0, t1, t2, t3⟩ := HM6.out.bx.cells
                    obtain ⟨y0, y1, y2, y3⟩ := HM6.out.rb.cells
                    try go_simp
                    refine hK.out _ _ ⟨t0, t1⟩ (fun hHeld6 => ?_)
                    clear hK K
                    (refine wpAnyH_take (i := 10) (v := (.bool true)) rfl (by kernel_rfl) (by kernel_rfl) (by kernel_rfl) (fun _ _ _ h => h) (Or.inl ⟨by rfl, by intro w hSw; obtain ⟨s0, s1⟩ := hSw; go_simp; try with_reducible rfl⟩) (by assumption) ?_; simp only [List.getElem_toArray, List.getElem_cons_succ, List.getElem_cons_zero, Act.put, List.setIfInBounds_toArray, List.set_cons_succ, List.set_cons_zero])
                    (refine wpAnyH_take (i := 11) (v := (.bool true)) rfl (by kernel_rfl) (by kernel_rfl) (by kernel_rfl) (fun _ _ _ h => h) (Or.inl ⟨by rfl, by intro w hSw; obtain ⟨s0, s1⟩ := hSw; go_simp; try with_reducible rfl⟩) (by assumption) ?_; simp only [List.getElem_toArray, List.getElem_cons_succ, List.getElem_cons_zero, Act.put, List.setIfInBounds_toArray, List.set_cons_succ, List.set_cons_zero])
                    refine wpAnyH_ready (rs := [12]) (by kernel_rfl) (by simp) (AllReadyH.cons rfl (fun K hK => ?_) AllReadyH.nil)
                    go_simp
                    have hgb : w.heap.size ≠ w3.heap.size := by omega
                    refine hK.out _ _ ⟨by change World.cell? (World.setCell (World.setCell _ _ _) _ _) _ = _; rw [World.cell?_setCell_far _ _ _ _ hgb, World.cell?_setCell_far _ _ _ _ hgb]; exact t0, by change World.cell? (World.setCell (World.setCell _ _ _) _ _) _ = _; rw [World.cell?_setCell_far _ _ _ _ hgb, World.cell?_setCell_far _ _ _ _ hgb]; exact t1⟩ (fun hHeld2 => ?_)
                    clear hK K
                    (refine wpAnyH_take (i := 13) (v := (.bool true)) rfl (by kernel_rfl) (by kernel_rfl) (by kernel_rfl) (fun _ _ _ h => h) (Or.inl ⟨by rfl, by intro w hSw; obtain ⟨s0, s1⟩ := hSw; go_simp; try with_reducible rfl⟩) (by assumption) ?_; simp only [List.getElem_toArray, List.getElem_cons_succ, List.getElem_cons_zero, Act.put, List.setIfInBounds_toArray, List.set_cons_succ, List.set_cons_zero])
                    refine wpAnyH_done (by kernel_rfl) ?_ _
                    go_wp2
                    refine bodyPost_ret (by simp [results, Tryz.results37, go_sem, y0, y1]; try rfl) rfl ?_
                    refine OneO.yes HY.out ?_ ((HM6.out.bl.setCell (Nat.le_refl _) _).setCell (Nat.le_refl _) _)
                    have o1 := own_moved HM6.out.own (Moved.set w.heap.size 0 _ (.string sql)) (own_other HM6.out.own HM6.out.rb (by decide))
                    exact own_moved o1 (Moved.set w.heap.size 1 _ _) (own_other HM6.out.own HM6.out.rb (by decide))
                  · have HN : Hid (oneS s.data.toList = none) := Lib.hid (by rw [HT.out, if_neg (by rintro ⟨_, a⟩; exact hp a)])
                    have hne : (⟨(T.part ⟨sql, vs⟩).toArray⟩ : ByteArray) ≠ s := by intro a; apply hp; rw [← a]
                    rw [hm] at HMy
                    generalize (⟨(T.part ⟨sql, vs⟩).toArray⟩ : ByteArray) = pt at HPt hne
                    have hneb : ¬ pt.toList = s.toList := by simpa using str_ne hne
                    clear hm hp hlen
                    go_wp2_with fail
                    refine wp_region_held_drew (S := fun w' => w'.cell? ⟨w3.heap.size, 0, none⟩ = some (.string sql) ∧ w'.cell? ⟨w3.heap.size, 1, none⟩ = some (.slice pa vs.length pc)) (by kernel_rfl) ⟨q0, q1⟩ (fun hHeld => ?_)
                    (refine wpAnyH_take (i := 0) (v := (.agg #[.string sql, .slice pa vs.length pc])) rfl (by kernel_rfl) (by kernel_rfl) (by kernel_rfl) (fun _ _ _ h => h) (Or.inl ⟨by rfl, by intro w hSw; obtain ⟨s0, s1⟩ := hSw; go_simp; try with_reducible rfl⟩) (by assumption) ?_; simp only [List.getElem_toArray, List.getElem_cons_zero, Act.put, List.setIfInBounds_toArray, List.set_cons_succ, List.set_cons_zero])
                    (refine wpAnyH_take (i := 1) (v := (.bool true)) rfl (by kernel_rfl) (by kernel_rfl) (by kernel_rfl) (fun _ _ _ h => h) (Or.inl ⟨by rfl, by intro w hSw; obtain ⟨s0, s1⟩ := hSw; go_simp; try with_reducible rfl⟩) (by assumption) ?_; simp only [List.getElem_toArray, List.getElem_cons_succ, List.getElem_cons_zero, Act.put, List.setIfInBounds_toArray, List.set_cons_succ, List.set_cons_zero])
                    (refine wpAnyH_take (i := 2) (v := (.bool true)) rfl (by kernel_rfl) (by kernel_rfl) (by kernel_rfl) (fun _ _ _ h => h) (Or.inl ⟨by rfl, by intro w hSw; obtain ⟨s0, s1⟩ := hSw; go_simp; try with_reducible rfl⟩) (by assumption) ?_; simp only [List.getElem_toArray, List.getElem_cons_succ, List.getElem_cons_zero, Act.put, List.setIfInBounds_toArray, List.set_cons_succ, List.set_cons_zero])
                    (refine wpAnyH_take (i := 3) (v := (.agg #[.string sql, .slice pa vs.length pc])) rfl (by kernel_rfl) (by kernel_rfl) (by kernel_rfl) (fun _ _ _ h => h) (Or.inl ⟨by rfl, by intro w hSw; obtain ⟨s0, s1⟩ := hSw; go_simp; try with_reducible rfl⟩) (by assumption) ?_; simp only [List.getElem_toArray, List.getElem_cons_succ, List.getElem_cons_zero, Act.put, List.setIfInBounds_toArray, List.set_cons_succ, List.set_cons_zero])
                    refine wpAnyH_ready (rs := [4]) (by kernel_rfl) (by simp) (AllReadyH.cons rfl (fun K hK => ?_) AllReadyH.nil)
                    go_simp
                    go_at_call 32
                    refine (HMy.out _ (own_vs HM.out.drew.own)).mono ?_
                    rintro e w5 ⟨rfl, hb5⟩
                    have HM5 := Lib.hid (HM.out.drew.below hb5)
                    obtain ⟨r0, r1, r2, r3⟩ := HM5.out.bx.cells
                    obtain ⟨x0, x1, x2, x3⟩ := HM5.out.rb.cells
                    try go_simp
                    refine hK.out _ _ ⟨r0, r1⟩ (fun hHeld5 => ?_)
                    clear hK K
                    (refine wpAnyH_take (i := 5) (v := (.bool true)) rfl (by kernel_rfl) (by kernel_rfl) (by kernel_rfl) (fun _ _ _ h => h) (Or.inl ⟨by rfl, by intro w hSw; obtain ⟨s0, s1⟩ := hSw; go_simp; try with_reducible rfl⟩) (by assumption) ?_; simp only [List.getElem_toArray, List.getElem_cons_succ, List.getElem_cons_zero, Act.put, List.setIfInBounds_toArray, List.set_cons_succ, List.set_cons_zero])
                    (refine wpAnyH_take (i := 6) (v := (.bool true)) rfl (by kernel_rfl) (by kernel_rfl) (by kernel_rfl) (fun _ _ _ h => h) (Or.inl ⟨by rfl, by intro w hSw; obtain ⟨s0, s1⟩ := hSw; go_simp; try with_reducible rfl⟩) (by assumption) ?_; simp only [List.getElem_toArray, List.getElem_cons_succ, List.getElem_cons_zero, Act.put, List.setIfInBounds_toArray, List.set_cons_succ, List.set_cons_zero])
                    (refine wpAnyH_take (i := 7) (v := (.agg #[.string sql, .slice pa vs.length pc])) rfl (by kernel_rfl) (by kernel_rfl) (by kernel_rfl) (fun _ _ _ h => h) (Or.inl ⟨by rfl, by intro w hSw; obtain ⟨s0, s1⟩ := hSw; go_simp; try with_reducible rfl⟩) (by assumption) ?_; simp only [List.getElem_toArray, List.getElem_cons_succ, List.getElem_cons_zero, Act.put, List.setIfInBounds_toArray, List.set_cons_succ, List.set_cons_zero])
                    (refine wpAnyH_take (i := 9) (v := (.string s)) rfl (by kernel_rfl) (by kernel_rfl) (by kernel_rfl) (fun _ _ _ h => h) (Or.inl ⟨by rfl, by intro w hSw; obtain ⟨s0, s1⟩ := hSw; go_simp; try with_reducible rfl⟩) (by assumption) ?_; simp only [List.getElem_toArray, List.getElem_cons_succ, List.getElem_cons_zero, Act.put, List.setIfInBounds_toArray, List.set_cons_succ, List.set_cons_zero])
                    refine wpAnyH_ready (rs := [8]) (by kernel_rfl) (by simp) (AllReadyH.cons rfl (fun K hK => ?_) AllReadyH.nil)
                    go_simp
                    go_at_call 33
                    refine (HPt.out _ HM5.out.bl (own_vs HM5.out.own)).mono ?_
                    rintro e w6 ⟨rfl, hb6⟩
                    have HM6 := Lib.hid (HM5.out.below hb6)
                    obtain ⟨t0, t1, t2, t3⟩ := HM6.out.bx.cells
                    obtain ⟨y0, y1, y2, y3⟩ := HM6.out.rb.cells
                    try go_simp
                    refine hK.out _ _ ⟨t0, t1⟩ (fun hHeld6 => ?_)
                    clear hK K
                    (refine wpAnyH_take (i := 10) (v := (.bool false)) rfl (by kernel_rfl) (by kernel_rfl) (by kernel_rfl) (fun _ _ _ h => h) (Or.inl ⟨by rfl, by intro w hSw; obtain ⟨s0, s1⟩ := hSw; go_simp; try with_reducible rfl⟩) (by assumption) ?_; simp only [List.getElem_toArray, List.getElem_cons_succ, List.getElem_cons_zero, Act.put, List.setIfInBounds_toArray, List.set_cons_succ, List.set_cons_zero])
                    (refine wpAnyH_take (i := 11) (v := (.bool false)) rfl (by kernel_rfl) (by kernel_rfl) (by kernel_rfl) (fun _ _ _ h => h) (Or.inl ⟨by rfl, by intro w hSw; obtain ⟨s0, s1⟩ := hSw; go_simp; try with_reducible rfl⟩) (by assumption) ?_; simp only [List.getElem_toArray, List.getElem_cons_succ, List.getElem_cons_zero, Act.put, List.setIfInBounds_toArray, List.set_cons_succ, List.set_cons_zero])
                    refine wpAnyH_ready (rs := [12]) (by kernel_rfl) (by simp) (AllReadyH.cons rfl (fun K hK => ?_) AllReadyH.nil)
                    go_simp
                    have hgb : w.heap.size ≠ w3.heap.size := by omega
                    refine hK.out _ _ ⟨by change World.cell? (World.setCell (World.setCell _ _ _) _ _) _ = _; rw [World.cell?_setCell_far _ _ _ _ hgb, World.cell?_setCell_far _ _ _ _ hgb]; exact t0, by change World.cell? (World.setCell (World.setCell _ _ _) _ _) _ = _; rw [World.cell?_setCell_far _ _ _ _ hgb, World.cell?_setCell_far _ _ _ _ hgb]; exact t1⟩ (fun hHeld2 => ?_)
                    clear hK K
                    (refine wpAnyH_take (i := 13) (v := (.bool false)) rfl (by kernel_rfl) (by kernel_rfl) (by kernel_rfl) (fun _ _ _ h => h) (Or.inl ⟨by rfl, by intro w hSw; obtain ⟨s0, s1⟩ := hSw; go_simp; try with_reducible rfl⟩) (by assumption) ?_; simp only [List.getElem_toArray, List.getElem_cons_succ, List.getElem_cons_zero, Act.put, List.setIfInBounds_toArray, List.set_cons_succ, List.set_cons_zero])
                    refine wpAnyH_done (by kernel_rfl) ?_ _
                    go_wp2
                    refine bodyPost_ret (by simp [results, Tryz.results37, go_sem, y0, y1]; try rfl) rfl ?_
                    exact OneO.no HN.out ((HM6.out.bl.setCell (Nat.le_refl _) _).setCell (Nat.le_refl _) _)
        · have HN : Hid (oneS s.data.toList = none) := Lib.hid (oneS_none HO.out (by rw [← HLL.out]; exact toldS_no (sqlS_no (.inr (.inr (by rw [size_len, idxk H (H.size - 1) (by omega)]; simpa using h4))))))
          have j5 : ((H[H.size - 1].toNat : Int) == 39) = false := u8_ne h4
          have j6 : ((H[H.size - 1].toNat : Int) != 39) = true := by rw [bne, j5]; rfl
          clear h3 h4
          go_enter Tryz.func37, Tryz.ntmps37
          go_wp2_with (go_at_call 79; refine (HC.out _).mono ?_; rintro e w1 ⟨v, rfl, hown, hb1⟩; obtain ⟨la, lc, hv, hlc, -, hx⟩ := own_form hown; subst hv; obtain ⟨lb, hla⟩ : ∃ lb, la = some ⟨lb, 0, none⟩ := (row_at hx (by omega)); subst hla; clear hx; have hbx : Below (w.heap.size + 1) _ w1 := hb1.mono (by simp); have c0 := box_cell hbx 0; have c1 := box_cell hbx 1; have f0 := box_frozen hbx 0; have f1 := box_frozen hbx 1; have l0 := scell_at hown 0 hpos; rw [HL0.out, arr_self] at l0)
          go_quiet (fail)
          go_wp2
          refine bodyPost_ret (by simp [results, Tryz.results37, go_sem, c0, c1]; try rfl) rfl ?_
          exact OneO.no HN.out (((below_drewN (box_below hbx) _).setCell (Nat.le_refl _) _).setCell (Nat.le_refl _) _)
      · have HN : Hid (oneS s.data.toList = none) := Lib.hid (oneS_none HO.out (by rw [← HLL.out]; exact toldS_no (sqlS_no (.inr (.inl (by rw [idxk H 0 (by omega)]; simpa using h3))))))
        have j3 : ((H[0].toNat : Int) == 39) = false := u8_ne h3
        have j4 : ((H[0].toNat : Int) != 39) = true := by rw [bne, j3]; rfl
        clear h3
        go_enter Tryz.func37, Tryz.ntmps37
        go_wp2_with (go_at_call 79; refine (HC.out _).mono ?_; rintro e w1 ⟨v, rfl, hown, hb1⟩; obtain ⟨la, lc, hv, hlc, -, hx⟩ := own_form hown; subst hv; obtain ⟨lb, hla⟩ : ∃ lb, la = some ⟨lb, 0, none⟩ := (row_at hx (by omega)); subst hla; clear hx; have hbx : Below (w.heap.size + 1) _ w1 := hb1.mono (by simp); have c0 := box_cell hbx 0; have c1 := box_cell hbx 1; have f0 := box_frozen hbx 0; have f1 := box_frozen hbx 1; have l0 := scell_at hown 0 hpos; rw [HL0.out, arr_self] at l0)
        go_quiet (fail)
        go_wp2
        refine bodyPost_ret (by simp [results, Tryz.results37, go_sem, c0, c1]; try rfl) rfl ?_
        exact OneO.no HN.out (((below_drewN (box_below hbx) _).setCell (Nat.le_refl _) _).setCell (Nat.le_refl _) _)
end Go.Proofs.YtkkildkleleppaaGreatDoor
namespace Go.Proofs.YtkkildkleleppaaGreatDoor
open Go.RowKit

/-! ### The loop over the pieces, plainly -/
def LE (l : List UInt8) (q : Bool) (f k : Nat) (vs : List V) : Prop := readVs (splitC false [] l) = (readVs (splitC q (pieceL l f k) (l.drop k))).map (vs ++ ·)
theorem piece_self (l : List UInt8) (k : Nat) : pieceL l k k = [] := by simp [pieceL]
theorem piece_snoc {l : List UInt8} {f k : Nat} (hf : f ≤ k) (hk : k < l.length) : pieceL l f (k + 1) = pieceL l f k ++ [l[k]] := by
  unfold pieceL
  rw [List.take_succ_eq_append_getElem hk, List.drop_append_of_le_length (by simp; omega)]
theorem LE.start (l : List UInt8) : LE l false 0 0 [] := by
  unfold LE
  rw [piece_self, List.drop_zero]
  cases readVs (splitC false [] l) <;> simp
section
variable {l : List UInt8} {q : Bool} {f k : Nat} {vs : List V}
theorem LE.go (h : LE l q f k vs) (hf : f ≤ k) (hk : k < l.length) (hc : ¬ (l[k] = 44 ∧ tog q l[k] = false)) : LE l (tog q l[k]) f (k + 1) vs := by
  unfold LE at *
  rw [h, List.drop_eq_getElem_cons hk, splitC, if_neg hc, piece_snoc hf hk]
theorem LE.hit {v : V} (h : LE l false f k vs) (hk : k < l.length) (hc : l[k] = 44) (hr : readV (pieceL l f k) = some v) : LE l false (k + 1) (k + 1) (vs ++ [v]) := by
  unfold LE at *
  have ht : tog false l[k] = false := by rw [hc]; rfl
  rw [h, List.drop_eq_getElem_cons hk, splitC, if_pos ⟨hc, ht⟩, readVs, hr, ht, piece_self]
  simp only
  cases readVs (splitC false [] (l.drop (k + 1))) <;> simp
theorem LE.miss (h : LE l false f k vs) (hk : k < l.length) (hc : l[k] = 44) (hr : readV (pieceL l f k) = none) : readVs (splitC false [] l) = none := by
  unfold LE at h
  have ht : tog false l[k] = false := by rw [hc]; rfl
  rw [h, List.drop_eq_getElem_cons hk, splitC, if_pos ⟨hc, ht⟩, readVs, hr]
  rfl
theorem LE.last {v : V} (h : LE l q f l.length vs) (hr : readV (pieceL l f l.length) = some v) : readVs (splitC false [] l) = some (vs ++ [v]) := by
  unfold LE at h
  rw [h, List.drop_length, splitC, readVs, hr]
  rfl
theorem LE.lost (h : LE l q f l.length vs) (hr : readV (pieceL l f l.length) = none) : readVs (splitC false [] l) = none := by
  unfold LE at h
  rw [h, List.drop_length, splitC, readVs, hr]
  rfl
end
/-- The loop's state: ahead of the text's end, or behind it. -/
def LX (l : List UInt8) (q : Bool) (f k : Nat) (vs : List V) : Prop := (k ≤ l.length ∧ f ≤ k ∧ LE l q f k vs) ∨ (k = l.length + 1 ∧ readVs (splitC false [] l) = some vs)

/-- The values of literals. -/
def LitsE (w : World) (o : Option (List V)) (e : Ending) (w' : World) : Prop :=
  match o with
  | none => e = .panicked (wrong32 421) ∧ Below w.heap.size w w'
  | some vs => ∃ v, e = .returned v ∧ w'.ownsRow w.heap.size 80 3 v vs.length (vcells vs) ∧ Below w.heap.size w w'

set_option maxRecDepth 100000 in
set_option maxHeartbeats 4000000 in
theorem literals_any (s : ByteArray) (hs : s.size ≤ 100000000) (w : World) (hE : Env w) :
    Calls Tryz.prog 129 #[.string s] w (LitsE w (readVs (splitC false [] s.data.toList))) := by
  have HEn := Lib.hid hE
  have H0 : Hid (LX s.data.toList false 0 0 []) := Lib.hid (.inl ⟨by omega, by omega, LE.start _⟩)
  clear hE
  go_enter Tryz.func129, Tryz.ntmps129
  go_wp2
  go_loopw [3, 4, 5, 6, 7, 8] (fun out iq f i _ _ wr => ∃ (k fr : Nat) (q : Bool) (vs : List V), i = .int .i64 k ∧ f = .int .i64 fr ∧ iq = .bool q ∧ vs.length ≤ k ∧ wr.ownsRow w.heap.size 80 3 out vs.length (vcells vs) ∧ Below w.heap.size w wr ∧ Hid (LX s.data.toList q fr k vs)) (fun _ _ _ i _ _ _ => s.size + 1 - (intOf i).toNat)
  case atStart => exact ⟨0, 0, false, [], rfl, rfl, rfl, by simp, World.ownsRow_nil _ _ _ _, Below.refl _ _, H0⟩
  case round =>
    obtain ⟨k, fr, q, vs, rfl, rfl, rfl, hvl, hown, hb, HX⟩ := hrel
    have i0 : (0 : Int) ≤ (fr : Int) := Int.natCast_nonneg _
    by_cases hlt : k < s.size
    · have hkl : k < s.data.toList.length := hlt
      obtain ⟨hk, hfk, hle⟩ : k ≤ s.data.toList.length ∧ fr ≤ k ∧ LE s.data.toList q fr k vs := by
        rcases HX.out with h | ⟨h, -⟩
        · exact h
        · rw [size_len] at h; omega
      have hg : s.data.toList[k] = s[k] := rfl
      have HL := Lib.hid hle
      clear hle hk HX
      have i1 : (fr : Int) ≤ (k : Int) := by omega
      have i2 : (k : Int) ≤ (s.size : Int) := by omega
      have i3 : (k : Int) < (s.size : Int) := by omega
      have i4 : ((k : Int) == (s.size : Int)) = false := by rw [beq_eq_false_iff_ne]; omega
      by_cases h39 : s[k] = 39
      · have a1 : ((s[k].toNat : Int) == 39) = true := u8_eq h39
        have a2 : ((s[k].toNat : Int) == 44) = false := by rw [h39]; decide
        have HX1 : Hid (LX s.data.toList (!q) fr (k + 1) vs) := by
          have h := HL.out.go hfk hkl (by rw [hg, h39]; rintro ⟨h, -⟩; exact absurd h (by decide))
          rw [hg, h39] at h
          exact Lib.hid (.inl ⟨hkl, by omega, h⟩)
        clear h39 hg HL
        go_wp2
        go_roundw
        case rel => exact ⟨k + 1, fr, !q, vs, by go_num, rfl, rfl, by omega, hown, hb, HX1⟩
        case measure => simp [intOf]; omega
      · have a1 : ((s[k].toNat : Int) == 39) = false := u8_ne h39
        have htq : tog q s[k] = q := by simp [tog, h39]
        by_cases h44 : s[k] = 44
        · have a2 : ((s[k].toNat : Int) == 44) = true := u8_eq h44
          cases q with
          | true =>
            have HX1 : Hid (LX s.data.toList true fr (k + 1) vs) := by
              have h := HL.out.go hfk hkl (by rw [hg, htq]; rintro ⟨-, h⟩; cases h)
              rw [hg, htq] at h
              exact Lib.hid (.inl ⟨hkl, by omega, h⟩)
            clear h39 h44 htq hg HL
            go_wp2
            go_roundw
            case rel => exact ⟨k + 1, fr, true, vs, by go_num, rfl, rfl, by omega, hown, hb, HX1⟩
            case measure => simp [intOf]; omega
          | false =>
            have hRd := fun w' h => Read_any (s.extract fr k) (by rw [ByteArray.size_extract]; omega) (w := w') h
            unfold ReadEnd at hRd
            simp only [piece_extract] at hRd
            cases hr : readV (pieceL s.data.toList fr k) with
            | none =>
              have HN : Hid (readVs (splitC false [] s.data.toList) = none) := Lib.hid (HL.out.miss hkl h44 hr)
              simp only [hr, V.val] at hRd
              have HRd := Lib.hid hRd
              clear hRd hr h39 h44 htq hg HL
              go_wp2_with (first
                | (go_at_call 122; refine (HRd.out _ (HEn.out.below hb)).mono ?_; rintro e w3 ⟨en, hen, rfl, hb3⟩; have hbb := hb.trans (hb3.mono hb.size))
                | (go_at_call 44; refine (sneed_no _).mono ?_; rintro e w4 ⟨rfl, rfl⟩))
              refine ⟨rfl, ?_⟩
              rw [HN.out]
              exact ⟨rfl, hbb.alloc hbb.size _⟩
            | some v =>
              have HX1 : Hid (LX s.data.toList false (k + 1) (k + 1) (vs ++ [v])) := Lib.hid (.inl ⟨hkl, by omega, HL.out.hit hkl h44 hr⟩)
              simp only [hr, V.val] at hRd
              have HRd := Lib.hid hRd
              clear hRd hr h39 h44 htq hg HL
              go_wp2_with (first
                | (go_at_call 122; refine (HRd.out _ (HEn.out.below hb)).mono ?_; rintro e w3 ⟨rfl, hb3⟩; have hown3 := own_kept hown hb3; have hbb := hb.trans (hb3.mono hb.size))
                | (go_at_call 44; refine (sneed_ok _).mono ?_; rintro e w4 ⟨rfl, rfl⟩)
                | (at_builtin; refine wpList_pushR2 (w3.alloc (.cells #[.int .i64 (v).k, .int .i64 (v).n, .string (v).s] 80)) 80 _ rfl (.tmp 52) (.tmp 54) _ rfl w.heap.size _ 3 32 Tryz.underlying40 infoV rfl (by decide) (by decide) _ vs.length (vcells vs) rfl (World.ownsRow.alloc hown3 _) (v).cells rfl (vcells_plain _) 1 1 _ (by simp) rfl rfl (by omega) (by have := hbb.size; simp; omega) ?_; intro v6 w6 hown6 hg6))
              have hb6 : Below w.heap.size w w6 := own_next (World.ownsRow.alloc hown3 _) (hbb.alloc hbb.size _) hg6 (by have := hbb.size; simp; omega)
              go_roundw
              case rel => refine ⟨k + 1, k + 1, false, vs ++ [v], by go_num, by go_num, rfl, by simp; omega, by rw [List.length_append, vcells_append]; simpa [vcells] using hown6, hb6, HX1⟩
              case measure => simp [intOf]; omega
        · have a2 : ((s[k].toNat : Int) == 44) = false := u8_ne h44
          have HX1 : Hid (LX s.data.toList q fr (k + 1) vs) := by
            have h := HL.out.go hfk hkl (by rw [hg]; rintro ⟨h, -⟩; exact h44 h)
            rw [hg, htq] at h
            exact Lib.hid (.inl ⟨hkl, by omega, h⟩)
          clear h39 h44 htq hg HL
          go_wp2
          go_roundw
          case rel => exact ⟨k + 1, fr, q, vs, by go_num, rfl, rfl, by omega, hown, hb, HX1⟩
          case measure => simp [intOf]; omega
    · by_cases hkn : k = s.size
      · obtain ⟨-, hfk, hle⟩ : k ≤ s.data.toList.length ∧ fr ≤ k ∧ LE s.data.toList q fr k vs := by
          rcases HX.out with h | ⟨h, -⟩
          · exact h
          · rw [size_len] at h; omega
        have HL : Hid (LE s.data.toList q fr s.data.toList.length vs) := by
          apply Lib.hid
          rw [size_len, ← hkn]; exact hle
        clear hle HX
        have i1 : (fr : Int) ≤ (k : Int) := by omega
        have i2 : (k : Int) ≤ (s.size : Int) := by omega
        have i3 : ¬ (k : Int) < (s.size : Int) := by omega
        have i4 : ((k : Int) == (s.size : Int)) = true := by rw [beq_iff_eq]; omega
        have hRd := fun w' h => Read_any (s.extract fr k) (by rw [ByteArray.size_extract]; omega) (w := w') h
        unfold ReadEnd at hRd
        simp only [piece_extract] at hRd
        have hkl : s.data.toList.length = k := by rw [size_len]; omega
        cases hr : readV (pieceL s.data.toList fr k) with
        | none =>
          have HN : Hid (readVs (splitC false [] s.data.toList) = none) := Lib.hid (HL.out.lost (by rw [hkl]; exact hr))
          simp only [hr, V.val] at hRd
          have HRd := Lib.hid hRd
          clear hRd hr HL hkl hkn
          go_wp2_with (first
            | (go_at_call 122; refine (HRd.out _ (HEn.out.below hb)).mono ?_; rintro e w3 ⟨en, hen, rfl, hb3⟩; have hbb := hb.trans (hb3.mono hb.size))
            | (go_at_call 44; refine (sneed_no _).mono ?_; rintro e w4 ⟨rfl, rfl⟩))
          refine ⟨rfl, ?_⟩
          rw [HN.out]
          exact ⟨rfl, hbb.alloc hbb.size _⟩
        | some v =>
          have HX1 : Hid (LX s.data.toList q (k + 1) (k + 1) (vs ++ [v])) := Lib.hid (.inr ⟨by rw [hkl], HL.out.last (by rw [hkl]; exact hr)⟩)
          simp only [hr, V.val] at hRd
          have HRd := Lib.hid hRd
          clear hRd hr HL hkl hkn
          go_wp2_with (first
            | (go_at_call 122; refine (HRd.out _ (HEn.out.below hb)).mono ?_; rintro e w3 ⟨rfl, hb3⟩; have hown3 := own_kept hown hb3; have hbb := hb.trans (hb3.mono hb.size))
            | (go_at_call 44; refine (sneed_ok _).mono ?_; rintro e w4 ⟨rfl, rfl⟩)
            | (at_builtin; refine wpList_pushR2 (w3.alloc (.cells #[.int .i64 (v).k, .int .i64 (v).n, .string (v).s] 80)) 80 _ rfl (.tmp 52) (.tmp 54) _ rfl w.heap.size _ 3 32 Tryz.underlying40 infoV rfl (by decide) (by decide) _ vs.length (vcells vs) rfl (World.ownsRow.alloc hown3 _) (v).cells rfl (vcells_plain _) 1 1 _ (by simp) rfl rfl (by omega) (by have := hbb.size; simp; omega) ?_; intro v6 w6 hown6 hg6))
          have hb6 : Below w.heap.size w w6 := own_next (World.ownsRow.alloc hown3 _) (hbb.alloc hbb.size _) hg6 (by have := hbb.size; simp; omega)
          go_roundw
          case rel => refine ⟨k + 1, k + 1, q, vs ++ [v], by go_num, by go_num, rfl, by simp; omega, by rw [List.length_append, vcells_append]; simpa [vcells] using hown6, hb6, HX1⟩
          case measure => simp [intOf]; omega
      · have HY : Hid (readVs (splitC false [] s.data.toList) = some vs) := by
          rcases HX.out with ⟨h, -⟩ | ⟨-, h⟩
          · rw [size_len] at h; omega
          · exact Lib.hid h
        have i3 : ¬ (k : Int) ≤ (s.size : Int) := by omega
        clear HX hkn
        go_wp2
        go_ret
        rw [HY.out]
        exact ⟨_, rfl, hown, hb⟩
end Go.Proofs.YtkkildkleleppaaGreatDoor
