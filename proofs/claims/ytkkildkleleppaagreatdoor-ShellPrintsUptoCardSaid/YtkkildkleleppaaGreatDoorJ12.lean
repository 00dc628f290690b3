/- Plain law: quotes, digits, numerals: what is written is read as itself. No program in sight. Plain law: a part that is read at a place is the text of what it tells, and the other way round. No program in sight. -/
import Derived.Test.YtkkildkleleppaaGreatDoorJ09
import Derived.Test.YtkkildkleleppaaGreatDoorJ11
namespace Go.Proofs.YtkkildkleleppaaGreatDoor

theorem dbl_q (z : List UInt8) : dbl (39 :: z) = 39 :: 39 :: dbl z := by simp [dbl, dblOne]
theorem dbl_o {c : UInt8} (h : c ≠ 39) (z : List UInt8) : dbl (c :: z) = c :: dbl z := by simp [dbl, dblOne, h]

theorem undbl_q (l : List UInt8) : undbl (39 :: 39 :: l) = 39 :: undbl l := by simp [undbl]
theorem undbl_o {c : UInt8} (h : c ≠ 39) (l : List UInt8) : undbl (c :: l) = c :: undbl l := by
  cases l with
  | nil => rfl
  | cons d r => simp [undbl, h]
theorem undbl_dbl (x : List UInt8) : undbl (dbl x) = x := by
  induction x with
  | nil => rfl
  | cons c r ih =>
    by_cases h : c = 39
    · subst h; rw [dbl_q, undbl_q, ih]
    · rw [dbl_o h, undbl_o h, ih]

theorem xd_hexd : ∀ i : Fin 16, xd (hexd i.val) = i.val := by decide
theorem hexd_plain : ∀ i : Fin 16, hexd i.val ≠ 39 ∧ hexd i.val ≠ 10 ∧ hexd i.val ≠ 44 := by decide
theorem hexs_cons (c : UInt8) (r : List UInt8) : hexs (c :: r) = hexd (c.toNat / 16) :: hexd (c.toNat % 16) :: hexs r := by simp [hexs, hexOne]
theorem unhex_hexs (x : List UInt8) : unhex (hexs x) = some x := by
  induction x with
  | nil => rfl
  | cons c r ih =>
    have hc : c.toNat < 256 := c.toNat_lt
    have h1 := xd_hexd ⟨c.toNat / 16, by omega⟩
    have h2 := xd_hexd ⟨c.toNat % 16, by omega⟩
    simp only at h1 h2
    rw [hexs_cons, unhex, h1, h2, ih, if_neg (by omega)]
    simp only [Option.map_some, Int.toNat_natCast]
    have : c.toNat / 16 * 16 + c.toNat % 16 = c.toNat := by omega
    rw [this, ofNat_toNat8]
/-- No byte of the list is a quote. -/
def noQ (l : List UInt8) : Prop := ∀ c ∈ l, c ≠ 39
theorem hexs_mem {x : List UInt8} {c : UInt8} (h : c ∈ hexs x) : c ≠ 39 ∧ c ≠ 10 ∧ c ≠ 44 := by
  induction x with
  | nil => simp [hexs] at h
  | cons d r ih =>
    have hd : d.toNat < 256 := d.toNat_lt
    rw [hexs_cons, List.mem_cons, List.mem_cons] at h
    rcases h with rfl | rfl | h
    · exact hexd_plain ⟨d.toNat / 16, by omega⟩
    · exact hexd_plain ⟨d.toNat % 16, by omega⟩
    · exact ih h
theorem dbl_noQ {l : List UInt8} (h : noQ l) : dbl l = l := by
  induction l with
  | nil => rfl
  | cons c r ih => rw [dbl_o (h c (by simp)), ih (fun d hd => h d (by simp [hd]))]

open Go.Lib in
theorem decDigits_digit : ∀ (u : Nat), ∀ c ∈ decDigits u, 48 ≤ c.toNat ∧ c.toNat ≤ 57 := by
  intro u
  induction u using Nat.strongRecOn with
  | _ u ih =>
    intro c hc
    by_cases h : u < 10
    · rw [decDigits, dif_pos h] at hc
      simp only [List.mem_cons, List.not_mem_nil, or_false] at hc
      subst hc
      rw [UInt8.toNat_ofNat']
      omega
    · rw [decDigits, dif_neg h, List.mem_append] at hc
      rcases hc with hc | hc
      · exact ih (u / 10) (by omega) c hc
      · simp only [List.mem_cons, List.not_mem_nil, or_false] at hc
        subst hc
        rw [UInt8.toNat_ofNat']
        omega
open Go.Lib in
theorem decDigits_ne (u : Nat) : decDigits u ≠ [] := by
  intro h
  have := decDigits_length u
  have := nDigits_pos u
  rw [h] at *
  simp at *
  omega
open Go.Lib in
theorem parseUintM_dec (M : Nat) (hM : M < 18446744073709551616) : ∀ (u acc : Nat) (r : List UInt8), acc * 10 ^ nDigits u + u ≤ M → parseUintM M acc (decDigits u ++ r) = parseUintM M (acc * 10 ^ nDigits u + u) r := by
  intro u
  induction u using Nat.strongRecOn with
  | _ u ih =>
    intro acc r h
    by_cases hu : u < 10
    · rw [nDigits_small hu] at h ⊢
      rw [decDigits, dif_pos hu]
      have e : (UInt8.ofNat (48 + u)).toNat = 48 + u := by rw [UInt8.toNat_ofNat']; omega
      simp only [List.cons_append, List.nil_append, parseUintM, e, Nat.pow_one] at h ⊢
      rw [if_pos (by omega), if_neg (by omega), if_neg (by omega)]
      congr 1
      omega
    · have hd : nDigits u = nDigits (u / 10) + 1 := nDigits_big hu
      have hp : acc * 10 ^ nDigits u = acc * 10 ^ nDigits (u / 10) * 10 := by rw [hd, Nat.pow_succ, Nat.mul_assoc]
      rw [hp] at h ⊢
      rw [decDigits, dif_neg hu, List.append_assoc, ih (u / 10) (by omega) acc _ (by omega)]
      have e : (UInt8.ofNat (48 + u % 10)).toNat = 48 + u % 10 := by rw [UInt8.toNat_ofNat']; omega
      generalize acc * 10 ^ nDigits (u / 10) = q at h ⊢
      simp only [List.cons_append, List.nil_append, parseUintM, e]
      rw [if_pos (by omega), if_neg (by omega), if_neg (by omega)]
      congr 1
      omega
open Go.Lib in
theorem parseUintB_dec (u : Nat) (h : u < 18446744073709551616) : parseUintB 64 (decDigits u) = .ok u := by
  have h2 := parseUintM_dec (2 ^ 64 - 1) (by decide) u 0 [] (by simp; omega)
  unfold parseUintB
  rw [if_neg (decDigits_ne u)]
  simpa [parseUintM] using h2
open Go.Lib in
theorem parseIntB_itoa (n : Int) (h0 : -9223372036854775808 ≤ n) (h1 : n ≤ 9223372036854775807) : parseIntB 64 (itoa n) = .ok n := by
  have p : 2 ^ (64 - 1) = 9223372036854775808 := by decide
  unfold itoa
  by_cases hn : n < 0
  · rw [if_pos hn, parseIntB_minus, parseUintB_dec n.natAbs (by omega), signedC, p, if_neg (by omega)]
    congr 1
    omega
  · rw [if_neg hn]
    cases hd : decDigits n.toNat with
    | nil => exact absurd hd (decDigits_ne _)
    | cons c r =>
      have hc := decDigits_digit n.toNat c (by rw [hd]; simp)
      rw [parseIntB_plain _ _ _ (by omega) (by omega), ← hd, parseUintB_dec n.toNat (by omega), signlessC, p, if_neg (by omega)]
      congr 1
      omega
theorem pIntO_itoa (n : Int) (h0 : -9223372036854775808 ≤ n) (h1 : n ≤ 9223372036854775807) : pIntO (Lib.itoa n) = some n := by
  unfold pIntO; rw [parseIntB_itoa n h0 h1]
open Go.Lib in
/-- A text that begins with no sign and no digit is no numeral. -/
theorem pIntO_no (c : UInt8) (r : List UInt8) (h : c.toNat < 48 ∨ 57 < c.toNat) (h43 : c.toNat ≠ 43) (h45 : c.toNat ≠ 45) : pIntO (c :: r) = none := by
  have e1 : ¬ (c.toNat = 43 ∨ c.toNat = 45) := by omega
  have e2 : ¬ (48 ≤ c.toNat ∧ c.toNat ≤ 57) := by omega
  simp [pIntO, parseIntB, e1, parseUintB, parseUintM, e2]
theorem itoa_mem {n : Int} {c : UInt8} (h : c ∈ Lib.itoa n) : c.toNat = 45 ∨ (48 ≤ c.toNat ∧ c.toNat ≤ 57) := by
  unfold Lib.itoa at h
  split at h
  · rw [List.mem_cons] at h
    rcases h with rfl | h
    · exact .inl rfl
    · exact .inr (decDigits_digit _ c h)
  · exact .inr (decDigits_digit _ c h)
theorem itoa_ne (n : Int) : Lib.itoa n ≠ [] := by
  unfold Lib.itoa
  split
  · simp
  · exact decDigits_ne _

theorem arr_self (s : ByteArray) : (⟨s.data.toList.toArray⟩ : ByteArray) = s := arr_eq rfl
theorem empty_of {s : ByteArray} (h : s.data.toList = []) : s = ByteArray.empty := by
  have := arr_self s
  rw [h] at this
  exact this.symm

/-- The four kinds of values that may be. -/
theorem may_four {v : V} (h : v.may = true) : (v = ⟨0, 0, ByteArray.empty⟩) ∨ (∃ n, v = ⟨1, n, ByteArray.empty⟩) ∨ (∃ s : ByteArray, s.data.toList.length ≤ 400 ∧ v = ⟨2, 0, s⟩) ∨ (∃ s : ByteArray, s.data.toList.length ≤ 400 ∧ v = ⟨3, 0, s⟩) := by
  obtain ⟨k, n, s⟩ := v
  simp only [V.may, mayB] at h
  by_cases h0 : k = 0
  · rw [if_pos h0] at h
    simp only [Bool.and_eq_true, decide_eq_true_eq, List.isEmpty_iff] at h
    have := empty_of h.2
    exact .inl (by rw [h0, h.1, this])
  · rw [if_neg h0] at h
    by_cases h1 : k = 1
    · rw [if_pos h1] at h
      simp only [List.isEmpty_iff] at h
      have := empty_of h
      exact .inr (.inl ⟨n, by rw [h1, this]⟩)
    · rw [if_neg h1] at h
      by_cases h2 : k = 2 ∨ k = 3
      · rw [if_pos h2] at h
        simp only [Bool.and_eq_true, decide_eq_true_eq] at h
        rcases h2 with h2 | h2
        · exact .inr (.inr (.inl ⟨s, h.2, by rw [h2, h.1]⟩))
        · exact .inr (.inr (.inr ⟨s, h.2, by rw [h2, h.1]⟩))
      · rw [if_neg h2] at h; cases h
theorem lit_null : (V.mk 0 0 ByteArray.empty).lit = [78, 85, 76, 76] := rfl
theorem lit_int (n : Int) : (V.mk 1 n ByteArray.empty).lit = Lib.itoa n := by
  have h : (V.mk 1 n ByteArray.empty).may = true := rfl
  simp [V.lit, h]
theorem may_text {s : ByteArray} (h : s.data.toList.length ≤ 400) : (V.mk 2 0 s).may = true := by
  simp only [V.may, mayB]; simp; simpa using h
theorem may_blob {s : ByteArray} (h : s.data.toList.length ≤ 400) : (V.mk 3 0 s).may = true := by
  simp only [V.may, mayB]; simp; simpa using h
theorem lit_text {s : ByteArray} (h : s.data.toList.length ≤ 400) : (V.mk 2 0 s).lit = quoted s.data.toList := by simp [V.lit, may_text h]
theorem lit_blob {s : ByteArray} (h : s.data.toList.length ≤ 400) : (V.mk 3 0 s).lit = blobbed s.data.toList := by simp [V.lit, may_blob h]

theorem inner_quoted (x : List UInt8) : innerL (39 :: (x ++ [39])) 1 = x := by simp [innerL]
theorem inner_blobbed (x : List UInt8) : innerL (120 :: 39 :: (x ++ [39])) 2 = x := by simp [innerL]
theorem itoa_len2 {n : Int} (h0 : -9223372036854775808 ≤ n) (h1 : n ≤ 9223372036854775807) : (Lib.itoa n).length ≤ 1000 := by
  have key : ∀ u : Nat, u ≤ 9223372036854775808 → Lib.nDigits u ≤ 19 := by
    intro u hu
    rcases Nat.lt_or_ge 19 (Lib.nDigits u) with hlt | hge
    · exfalso
      have hb : ∀ (k u : Nat), u < 10 ^ (k + 1) → Lib.nDigits u ≤ k + 1 := by
        intro k
        induction k with
        | zero => intro u hu; rw [Lib.nDigits_small (by simpa using hu)]; omega
        | succ k ih =>
          intro u hu
          by_cases h : u < 10
          · rw [Lib.nDigits_small h]; omega
          · rw [Lib.nDigits_big h]
            have := ih (u / 10) (by rw [Nat.pow_succ] at hu; omega)
            omega
      have := hb 18 u (by omega)
      omega
    · exact hge
  unfold Lib.itoa
  split
  · have := key n.natAbs (by omega)
    rw [List.length_cons, Lib.decDigits_length]; omega
  · have := key n.toNat (by omega)
    rw [Lib.decDigits_length]; omega
theorem quoted_len2 (x : List UInt8) : (quoted x).length = (dbl x).length + 2 := by simp [quoted]
theorem blobbed_len (x : List UInt8) : (blobbed x).length = 2 * x.length + 3 := by simp [blobbed, hexs_len]
theorem guessV_lit {v : V} (h : v.may = true) (hf : v.fit) : guessV v.lit = v := by
  rcases may_four h with rfl | ⟨n, rfl⟩ | ⟨s, hs, rfl⟩ | ⟨s, hs, rfl⟩
  · rw [lit_null]
    exact guessV_none (pIntO_no 78 _ (by decide) (by decide) (by decide)) (by decide) (.inr (by decide))
  · rw [lit_int]
    exact guessV_int (pIntO_itoa n hf.1 hf.2)
  · rw [lit_text hs, quoted, guessV_text (pIntO_no 39 _ (by decide) (by decide) (by decide)) (by simp) rfl, inner_quoted, undbl_dbl, arr_self]
  · rw [lit_blob hs, blobbed, guessV_blob (b := s.data.toList) (pIntO_no 120 _ (by decide) (by decide) (by decide)) (by simp) rfl (by rw [inner_blobbed, unhex_hexs]), arr_self]
theorem lit_len2 {v : V} (h : v.may = true) (hf : v.fit) : v.lit.length ≤ 1000 := by
  rcases may_four h with rfl | ⟨n, rfl⟩ | ⟨s, hs, rfl⟩ | ⟨s, hs, rfl⟩
  · simp [lit_null]
  · rw [lit_int]; exact itoa_len2 hf.1 hf.2
  · rw [lit_text hs, quoted_len2]; have := dbl_len s.data.toList; omega
  · rw [lit_blob hs, blobbed_len]; omega
theorem readV_lit {v : V} (h : v.may = true) (hf : v.fit) : readV v.lit = some v := by
  unfold readV
  rw [guessV_lit h hf, if_pos ⟨lit_len2 h hf, h, rfl⟩]
theorem readV_sound {l : List UInt8} {v : V} (h : readV l = some v) : v.may = true ∧ v.fit ∧ v.lit = l := by
  unfold readV at h
  split at h
  · rename_i hh
    injection h with h
    subst h
    exact ⟨hh.2.1, guess_fit l, hh.2.2⟩
  · cases h
end Go.Proofs.YtkkildkleleppaaGreatDoor
namespace Go.Proofs.YtkkildkleleppaaGreatDoor

theorem qBody_sound : ∀ (n : Nat) (l : List UInt8), l.length ≤ n → ∀ x m, qBody l = some (x, m) → ∃ r, l = dbl x ++ 39 :: r ∧ nx r 0 39 = false ∧ m = (dbl x).length + 1
  | _, [], _, x, m, h => by cases h
  | _, [c], _, x, m, h => by
    simp only [qBody] at h
    split at h
    · rename_i hc
      cases h; subst hc
      exact ⟨[], rfl, rfl, rfl⟩
    · cases h
  | 0, c :: d :: r, hn, _, _, _ => by simp at hn
  | n + 1, c :: d :: r, hn, x, m, h => by
    simp only [List.length_cons] at hn
    simp only [qBody] at h
    split at h
    · rename_i hc
      subst hc
      split at h
      · rename_i hd
        subst hd
        cases hq : qBody r with
        | none => rw [hq] at h; cases h
        | some z =>
          obtain ⟨r', h1, h2, h3⟩ := qBody_sound n r (by omega) z.1 z.2 hq
          rw [hq] at h; cases h
          exact ⟨r', by rw [dbl_q, List.cons_append, List.cons_append, ← h1], h2, by rw [dbl_q, h3]; simp⟩
      · rename_i hd
        cases h
        exact ⟨d :: r, rfl, by simp [nx, hd], rfl⟩
    · rename_i hc
      cases hq : qBody (d :: r) with
      | none => rw [hq] at h; cases h
      | some z =>
        obtain ⟨r', h1, h2, h3⟩ := qBody_sound n (d :: r) (by simp; omega) z.1 z.2 hq
        rw [hq] at h; cases h
        exact ⟨r', by rw [dbl_o hc, List.cons_append, ← h1], h2, by rw [dbl_o hc, h3]; simp⟩
theorem qBody_full (x : List UInt8) {r : List UInt8} (h : nx r 0 39 = false) : qBody (dbl x ++ 39 :: r) = some (x, (dbl x).length + 1) := by
  induction x with
  | nil => exact qBody_end r h
  | cons c x ih =>
    by_cases hc : c = 39
    · subst hc
      rw [dbl_q, List.cons_append, List.cons_append, qBody_two, ih]
      simp
    · rw [dbl_o hc, List.cons_append, qBody_other _ _ hc, ih]
      simp

/-- Behind the text a there stands b. -/
theorem drop_more {l a b : List UInt8} {k : Nat} (h : l.drop k = a ++ b) : l.drop (k + a.length) = b := by
  rw [← List.drop_drop, h]; simp
theorem nx_of {l r : List UInt8} {k : Nat} {c : UInt8} (d : UInt8) (h : l.drop k = c :: r) : nx l k d = (c == d) := by
  rw [← nx_drop, h]; rfl
theorem nx_cons {l : List UInt8} {k : Nat} {c : UInt8} (h : nx l k c = true) : l.drop k = c :: l.drop (k + 1) := by
  unfold nx at h
  rcases Nat.lt_or_ge k l.length with h1 | h1
  · rw [List.getElem?_eq_getElem h1] at h
    have := beq_iff_eq.1 h
    injection this with this
    rw [List.drop_eq_getElem_cons h1, this]
  · rw [List.getElem?_eq_none h1] at h; cases h
theorem nx_lt' {l : List UInt8} {k : Nat} {c : UInt8} (h : nx l k c = true) : k < l.length := by
  rcases Nat.lt_or_ge k l.length with h1 | h1
  · exact h1
  · unfold nx at h; rw [List.getElem?_eq_none h1] at h; cases h

theorem qtd_sound {l x : List UInt8} {k j : Nat} (h : qtd l k = some (x, j)) : l.drop k = quoted x ++ l.drop j ∧ j = k + (quoted x).length ∧ nx l j 39 = false := by
  unfold qtd at h
  split at h
  · rename_i hn
    cases hq : qBody (l.drop (k + 1)) with
    | none => rw [hq] at h; cases h
    | some z =>
      obtain ⟨r, h1, h2, h3⟩ := qBody_sound _ _ (Nat.le_refl _) z.1 z.2 hq
      rw [hq] at h; cases h
      have h0 := nx_cons hn
      have h4 : l.drop k = quoted z.1 ++ r := by rw [h0, h1]; simp [quoted]
      have h5 : k + 1 + z.2 = k + (quoted z.1).length := by rw [h3, quoted_len2]; omega
      have h6 := drop_more h4
      simp only [h5, h6]
      exact ⟨h4, trivial, by rw [← nx_drop, h6]; exact h2⟩
  · cases h
theorem qtd_full {l x r : List UInt8} {k : Nat} (h : l.drop k = quoted x ++ r) (hr : nx r 0 39 = false) : qtd l k = some (x, k + (quoted x).length) := by
  have h0 : l.drop k = 39 :: (dbl x ++ 39 :: r) := by rw [h]; simp [quoted]
  have hn : nx l k 39 = true := by rw [nx_of 39 h0]; rfl
  have h1 : l.drop (k + 1) = dbl x ++ 39 :: r := by rw [← List.drop_drop, h0]; rfl
  unfold qtd
  rw [if_pos hn, h1, qBody_full x hr, quoted_len2]
  simp; omega

/-- A comma or a line's end comes first. -/
def Stop (r : List UInt8) : Prop := ∃ c t, r = c :: t ∧ (c = 44 ∨ c = 10)
theorem Stop.no {r : List UInt8} (h : Stop r) {d : UInt8} (h1 : d ≠ 44) (h2 : d ≠ 10) : nx r 0 d = false := by
  obtain ⟨c, t, rfl, h | h⟩ := h
  · subst h; simp [nx]; exact fun e => h1 e.symm
  · subst h; simp [nx]; exact fun e => h2 e.symm
theorem stopL_full {a r : List UInt8} (h : ∀ c ∈ a, c ≠ 44 ∧ c ≠ 10) (hr : Stop r) : stopL (a ++ r) = a.length := by
  induction a with
  | nil =>
    obtain ⟨c, t, rfl, hc⟩ := hr
    exact stopL_stop c t hc
  | cons c a ih =>
    have hc := h c (by simp)
    rw [List.cons_append, stopL_go _ _ hc.1 hc.2, ih (fun d hd => h d (by simp [hd]))]
    rfl
theorem piece_of {l a r : List UInt8} {k : Nat} (h : l.drop k = a ++ r) : pieceL l k (k + a.length) = a := by
  unfold pieceL
  rw [List.drop_take, h]
  simp
theorem valueV_of {l : List UInt8} {k j : Nat} {v : V} (h : litEnd l (headX l k) = some j) (h2 : readV (pieceL l k j) = some v) : valueV l k = some (v, j) := by
  simp only [valueV, h, h2]; rfl
theorem headX_no {l : List UInt8} {k : Nat} (h : nx l k 120 = false) : headX l k = k := by simp [headX, h]
theorem headX_yes {l : List UInt8} {k : Nat} (h : nx l k 120 = true) : headX l k = k + 1 := by simp [headX, h]
theorem litEnd_qtd {l x : List UInt8} {k j : Nat} (hn : nx l k 39 = true) (h : qtd l k = some (x, j)) : litEnd l k = some j := by
  rw [litEnd_quoted hn, quotedS_qtd, h]; rfl
/-- A literal that begins with no quote and no x. -/
theorem valueV_plain {l a r : List UInt8} {k : Nat} {v : V} (h : l.drop k = a ++ r) (hr : Stop r) (hm : ∀ c ∈ a, c ≠ 44 ∧ c ≠ 10 ∧ c ≠ 39 ∧ c ≠ 120) (hv : readV a = some v) : valueV l k = some (v, k + a.length) := by
  have h0 : ∀ d : UInt8, d = 39 ∨ d = 120 → nx l k d = false := by
    intro d hd
    rw [← nx_drop, h]
    cases a with
    | nil => rw [List.nil_append]; exact hr.no (by rcases hd with rfl | rfl <;> decide) (by rcases hd with rfl | rfl <;> decide)
    | cons c a =>
      have hc := hm c (by simp)
      simp only [nx, List.cons_append, List.getElem?_cons_zero]
      rw [beq_eq_false_iff_ne]
      rcases hd with rfl | rfl
      · intro e; injection e with e; exact hc.2.2.1 e
      · intro e; injection e with e; exact hc.2.2.2 e
  refine valueV_of (j := k + a.length) ?_ (by rw [piece_of h]; exact hv)
  rw [headX_no (h0 120 (.inr rfl)), litEnd_plain (h0 39 (.inl rfl)), h, stopL_full (fun c hc => ⟨(hm c hc).1, (hm c hc).2.1⟩) hr]
theorem valueV_full {l r : List UInt8} {k : Nat} {v : V} (h : v.may = true) (hf : v.fit) (hl : l.drop k = v.lit ++ r) (hr : Stop r) : valueV l k = some (v, k + v.lit.length) := by
  have hv := readV_lit h hf
  rcases may_four h with rfl | ⟨n, rfl⟩ | ⟨s, hs, rfl⟩ | ⟨s, hs, rfl⟩
  · exact valueV_plain hl hr (by rw [lit_null]; intro c hc; simp at hc; rcases hc with rfl | rfl | rfl <;> decide) hv
  · refine valueV_plain hl hr ?_ hv
    rw [lit_int]
    intro c hc
    have hm := itoa_mem hc
    refine ⟨?_, ?_, ?_, ?_⟩ <;> · rintro rfl; simp at hm
  · have hq : l.drop k = quoted s.data.toList ++ r := by rw [hl, lit_text hs]
    have h39 : nx l k 39 = true := by rw [nx_of (c := 39) (r := dbl s.data.toList ++ [39] ++ r) 39 (by rw [hq]; rfl)]; rfl
    have h120 : nx l k 120 = false := by rw [nx_of (c := 39) (r := dbl s.data.toList ++ [39] ++ r) 120 (by rw [hq]; rfl)]; rfl
    refine valueV_of (j := k + (V.mk 2 0 s).lit.length) ?_ (by rw [piece_of hl]; exact hv)
    rw [headX_no h120, lit_text hs]
    exact litEnd_qtd h39 (qtd_full hq (hr.no (by decide) (by decide)))
  · have hq : l.drop k = 120 :: (quoted (hexs s.data.toList) ++ r) := by
      rw [hl, lit_blob hs, blobbed, quoted, dbl_noQ (fun c hc => (hexs_mem hc).1)]; rfl
    have h120 : nx l k 120 = true := by rw [nx_of 120 hq]; rfl
    have hq1 : l.drop (k + 1) = quoted (hexs s.data.toList) ++ r := by rw [← List.drop_drop, hq]; rfl
    have h39 : nx l (k + 1) 39 = true := by rw [nx_of (c := 39) (r := dbl (hexs s.data.toList) ++ [39] ++ r) 39 (by rw [hq1]; rfl)]; rfl
    refine valueV_of (j := k + (V.mk 3 0 s).lit.length) ?_ (by rw [piece_of hl]; exact hv)
    rw [headX_yes h120, litEnd_qtd h39 (qtd_full hq1 (hr.no (by decide) (by decide))), lit_blob hs, blobbed_len, quoted_len2, dbl_noQ (fun c hc => (hexs_mem hc).1), hexs_len]
    congr 1; omega
theorem valueV_sound {l : List UInt8} {k j : Nat} {v : V} (hk : k ≤ l.length) (h : valueV l k = some (v, j)) : v.may = true ∧ v.fit ∧ l.drop k = v.lit ++ l.drop j ∧ j = k + v.lit.length := by
  have hle := valueV_le hk h
  unfold valueV at h
  split at h
  · cases h
  · rename_i k2 hl
    cases hr : readV (pieceL l k k2) with
    | none => rw [hr] at h; cases h
    | some u =>
      rw [hr] at h; cases h
      obtain ⟨h1, h2, h3⟩ := readV_sound hr
      have hlen : (pieceL l k j).length = j - k := by simp [pieceL]; omega
      refine ⟨h1, h2, ?_, by rw [h3, hlen]; omega⟩
      rw [h3]
      unfold pieceL
      rw [List.drop_take]
      have : l.drop j = (l.drop k).drop (j - k) := by rw [List.drop_drop]; congr 1; omega
      rw [this, List.take_append_drop]

/-- The numbers of the values are numbers of 64 bits. -/
def fits (vs : List V) : Prop := ∀ v ∈ vs, v.fit
theorem paramsT_cons (v : V) (vs : List V) : paramsT (v :: vs) = 44 :: (v.lit ++ paramsT vs) := by simp [paramsT]
theorem paramsS_sound : ∀ (n : Nat) (l : List UInt8) (k : Nat) (vs : List V) (j : Nat), k ≤ l.length → paramsS n l k = some (vs, j) →
    (∀ v ∈ vs, v.may = true) ∧ fits vs ∧ l.drop k = paramsT vs ++ l.drop j ∧ j = k + (paramsT vs).length ∧ j ≤ l.length
  | 0, _, _, _, _, _, h => by cases h
  | n + 1, l, k, vs, j, hk, h => by
    cases hn : nx l k 44 with
    | false =>
      rw [paramsS_end hn] at h
      cases h
      exact ⟨by simp, by simp [fits], by simp [paramsT], by simp [paramsT], hk⟩
    | true =>
      have hlt := nx_lt' hn
      cases hv : valueV l (k + 1) with
      | none => rw [paramsS_none hn hv] at h; cases h
      | some u =>
        obtain ⟨v, i⟩ := u
        rw [paramsS_some hn hv] at h
        have hle := valueV_le (by omega) hv
        obtain ⟨a1, a2, a3, a4⟩ := valueV_sound (by omega) hv
        cases hp : paramsS n l i with
        | none => rw [hp] at h; cases h
        | some y =>
          obtain ⟨b1, b2, b3, b4, b5⟩ := paramsS_sound n l i y.1 y.2 hle.2 hp
          rw [hp] at h
          cases h
          refine ⟨?_, ?_, ?_, ?_, b5⟩
          · intro u hu; rcases List.mem_cons.1 hu with rfl | hu
            · exact a1
            · exact b1 u hu
          · intro u hu; rcases List.mem_cons.1 hu with rfl | hu
            · exact a2
            · exact b2 u hu
          · rw [nx_cons hn, a3, b3, paramsT_cons]; simp
          · rw [b4, a4, paramsT_cons]; simp; omega
theorem paramsT_stop (vs : List V) (r : List UInt8) : Stop (paramsT vs ++ 10 :: r) := by
  cases vs with
  | nil => exact ⟨10, r, rfl, .inr rfl⟩
  | cons v vs => rw [paramsT_cons]; exact ⟨44, _, rfl, .inl rfl⟩
theorem paramsS_full : ∀ (vs : List V) (n : Nat) (l : List UInt8) (k : Nat) (r : List UInt8), vs.length < n → (∀ v ∈ vs, v.may = true) → fits vs → l.drop k = paramsT vs ++ 10 :: r → paramsS n l k = some (vs, k + (paramsT vs).length)
  | _, 0, _, _, _, hn, _, _, _ => by omega
  | [], n + 1, l, k, r, _, _, _, h => by
    have hn : nx l k 44 = false := by rw [nx_of (c := 10) (r := r) 44 h]; rfl
    rw [paramsS_end hn]; rfl
  | v :: vs, n + 1, l, k, r, hn, hm, hf, h => by
    have h0 : l.drop k = 44 :: (v.lit ++ (paramsT vs ++ 10 :: r)) := by rw [h, paramsT_cons]; simp
    have h44 : nx l k 44 = true := by rw [nx_of 44 h0]; rfl
    have h1 : l.drop (k + 1) = v.lit ++ (paramsT vs ++ 10 :: r) := by rw [← List.drop_drop, h0]; rfl
    have hv := valueV_full (hm v (by simp)) (hf v (by simp)) h1 (paramsT_stop vs r)
    rw [paramsS_some h44 hv, paramsS_full vs n l _ r (by simp at hn; omega) (fun u hu => hm u (by simp [hu])) (fun u hu => hf u (by simp [hu])) (drop_more h1), paramsT_cons]
    simp; omega

def T.fit (t : T) : Prop := fits t.ps
theorem may_ps {t : T} (h : t.may = true) : ∀ v ∈ t.ps, v.may = true := by
  intro v hv
  simp only [T.may, Bool.and_eq_true, Bool.not_eq_true'] at h
  have h2 := h.2
  simp only [badV] at h2
  rw [List.any_eq_false] at h2
  have := h2 v hv
  simpa using this
theorem part_eq (t : T) (r : List UInt8) : t.part ++ r = quoted t.sql.data.toList ++ (paramsT t.ps ++ 10 :: r) := by simp [T.part]
theorem partS_sound {l : List UInt8} {k j : Nat} {t : T} (h : partS l k = some (t, j)) : t.may = true ∧ t.fit ∧ l.drop k = t.part ++ l.drop j ∧ j = k + t.part.length ∧ j ≤ l.length := by
  unfold partS at h
  split at h
  · cases h
  · rename_i x hq
    obtain ⟨q1, q2, -⟩ := qtd_sound (x := x.1) (j := x.2) hq
    have hle := qtd_le (x := x.1) (j := x.2) hq
    split at h
    · cases h
    · rename_i y hp
      obtain ⟨p1, p2, p3, p4, p5⟩ := paramsS_sound _ _ _ y.1 y.2 hle.2 hp
      split at h
      · rename_i hh
        cases h
        have hlt := nx_lt' hh.1
        refine ⟨hh.2, p2, ?_, ?_, by omega⟩
        · rw [part_eq]
          simp only
          rw [q1, p3, nx_cons hh.1]
        · have : (T.part ⟨⟨x.1.toArray⟩, y.1⟩).length = (quoted x.1).length + (paramsT y.1).length + 1 := by simp [T.part]; omega
          rw [this]; omega
      · cases h
theorem paramsT_ge (vs : List V) : vs.length ≤ (paramsT vs).length := by
  induction vs with
  | nil => simp
  | cons v vs ih => rw [paramsT_cons]; simp; omega
theorem partS_full {l r : List UInt8} {k : Nat} {t : T} (hm : t.may = true) (hf : t.fit) (h : l.drop k = t.part ++ r) : partS l k = some (t, k + t.part.length) := by
  rw [part_eq] at h
  have hq := qtd_full h ((paramsT_stop t.ps r).no (by decide) (by decide))
  have h1 := drop_more h
  have hlen : t.ps.length < l.length + 1 := by
    have h2 := congrArg List.length h1
    have := paramsT_ge t.ps
    simp only [List.length_drop, List.length_append, List.length_cons] at h2
    omega
  have hp := paramsS_full t.ps (l.length + 1) l _ r hlen (may_ps hm) hf h1
  have h10 : nx l (k + (quoted t.sql.data.toList).length + (paramsT t.ps).length) 10 = true := by
    rw [nx_of (c := 10) (r := r) 10 (drop_more h1)]; rfl
  have ht : (T.mk ⟨t.sql.data.toList.toArray⟩ t.ps) = t := by rw [arr_self]
  unfold partS
  simp only [hq, hp, h10, ht, hm, and_self, if_true]
  congr 2
  simp [T.part]; omega

/-! ### Whole texts -/
/-- What a text tells from a place on; none of it: the place of the first part that is none. -/
def readS : Nat → List UInt8 → Nat → Except Nat (List T)
  | 0, _, k => .error k
  | n + 1, l, k => if k < l.length then (match partS l k with | none => .error k | some x => (match readS n l x.2 with | .error e => .error e | .ok ts => .ok (x.1 :: ts))) else .ok []
theorem readS_end {n : Nat} {l : List UInt8} {k : Nat} (h : ¬ k < l.length) : readS (n + 1) l k = .ok [] := by simp [readS, h]
theorem readS_none {n : Nat} {l : List UInt8} {k : Nat} (h : k < l.length) (h2 : partS l k = none) : readS (n + 1) l k = .error k := by simp [readS, h, h2]
theorem readS_some {n : Nat} {l : List UInt8} {k j : Nat} {t : T} (h : k < l.length) (h2 : partS l k = some (t, j)) : readS (n + 1) l k = (match readS n l j with | .error e => .error e | .ok ts => .ok (t :: ts)) := by simp [readS, h, h2]
theorem part_pos (t : T) : 3 ≤ t.part.length := by simp [T.part, quoted]; omega
theorem readS_sound : ∀ (n : Nat) (l : List UInt8) (k : Nat) (ts : List T), k ≤ l.length → readS n l k = .ok ts → ts.all T.may = true ∧ (∀ t ∈ ts, t.fit) ∧ l.drop k = flatT ts
  | 0, _, _, _, _, h => by cases h
  | n + 1, l, k, ts, hk, h => by
    by_cases hlt : k < l.length
    · cases hp : partS l k with
      | none => rw [readS_none hlt hp] at h; cases h
      | some x =>
        obtain ⟨t, j⟩ := x
        rw [readS_some hlt hp] at h
        obtain ⟨p1, p2, p3, p4, p5⟩ := partS_sound hp
        cases hr : readS n l j with
        | error e => rw [hr] at h; cases h
        | ok us =>
          obtain ⟨r1, r2, r3⟩ := readS_sound n l j us p5 hr
          rw [hr] at h
          cases h
          refine ⟨by simp [p1, r1], ?_, by rw [p3, r3]; simp [flatT]⟩
          intro u hu; rcases List.mem_cons.1 hu with rfl | hu
          · exact p2
          · exact r2 u hu
    · rw [readS_end hlt] at h
      cases h
      exact ⟨rfl, by simp, by rw [List.drop_of_length_le (by omega)]; rfl⟩
theorem readS_full : ∀ (ts : List T) (n : Nat) (l : List UInt8) (k : Nat), ts.length < n → ts.all T.may = true → (∀ t ∈ ts, t.fit) → l.drop k = flatT ts → readS n l k = .ok ts
  | _, 0, _, _, hn, _, _, _ => by omega
  | [], n + 1, l, k, _, _, _, h => by
    have : ¬ k < l.length := by
      intro hlt
      have h2 := congrArg List.length h
      simp [flatT] at h2; omega
    exact readS_end this
  | t :: ts, n + 1, l, k, hn, hm, hf, h => by
    rw [List.all_cons, Bool.and_eq_true] at hm
    have h0 : l.drop k = t.part ++ flatT ts := by rw [h]; simp [flatT]
    have hp := partS_full hm.1 (hf t (by simp)) h0
    have hlt : k < l.length := by
      have h2 := congrArg List.length h0
      have := part_pos t
      simp only [List.length_drop, List.length_append] at h2
      omega
    rw [readS_some hlt hp, readS_full ts n l _ (by simp at hn; omega) hm.2 (fun u hu => hf u (by simp [hu])) (drop_more h0)]
theorem flatT_ge (ts : List T) : ts.length ≤ (flatT ts).length := by
  induction ts with
  | nil => simp
  | cons t ts ih =>
    have := part_pos t
    have e : flatT (t :: ts) = t.part ++ flatT ts := by simp [flatT]
    rw [e, List.length_append, List.length_cons]; omega
end Go.Proofs.YtkkildkleleppaaGreatDoor
